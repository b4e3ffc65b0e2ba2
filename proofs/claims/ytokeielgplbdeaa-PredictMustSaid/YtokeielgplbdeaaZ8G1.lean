/-
  Freechoice: names, lists of places, nets: the program and the reference reckon alike.
-/
import Derived.Test.YtokeielgplbdeaaZ8Md
import Derived.Test.YtokeielgplbdeaaZ8KE
import Derived.KernelRfl
set_option linter.all false
namespace Go.Proofs.Ytokeielgplbdeaa
open Go.K Go.M
def eqS(a b:ByteArray):Bool:=ByteArray.toList a==ByteArray.toList b
theorem q46(a b:ByteArray):(ByteArray.toList a==ByteArray.toList b)=eqS a b:=rfl
def qp6(c:Int):Bool:=decide (65≤c)&&decide (c≤90)||decide (97≤c)&&decide (c≤122)
def qav(c:Int):Bool:=qp6 c||decide (48≤c)&&decide (c≤57)||decide (c=95)||decide (c=45)||decide (c=46)
abbrev byt(s:ByteArray)(i:Nat):Int:=((ByteArray.data s).getD i 0).toNat
theorem qv2(c:Int):xn c=some (qp6 c):=by
 unfold xn qp6;cases decide ((65:Int)≤c)<;>cases decide (c≤(90:Int))<;>cases decide ((97:Int)≤c)<;>cases decide (c≤(122:Int))<;>rfl
theorem qez(c:Int):t9 c=some (qp6 c):=by
 unfold t9 qp6;cases decide ((65:Int)≤c)<;>cases decide (c≤(90:Int))<;>cases decide ((97:Int)≤c)<;>cases decide (c≤(122:Int))<;>rfl
theorem q5w(c:Int):qif c=some (qav c):=by
 unfold qif qav;rw[qv2,i5];cases qp6 c<;>cases decide ((48:Int)≤c)<;>cases decide (c≤(57:Int))<;>cases decide (c=(95:Int))<;>cases decide (c=(45:Int))<;>cases decide (c=(46:Int))<;>rfl
def qpd(s:ByteArray):Bool:=decide (1≤s.size)&&decide (s.size≤40)&&qp6 (byt s 0)&&(List.range s.size).all fun i=>qav (byt s i)
theorem q6s(s:ByteArray):qat s=some (qpd s):=by
 unfold qat qpd;by_cases h1:(s.size:Int)<1
 ·have:¬1≤s.size:=by omega
  simp(disch:=omega)only[rs];rw[decide_eq_false this];rfl
 ·have h1' :1≤s.size:=by omega
  rw[decide_eq_true h1'];by_cases h2:40<(s.size:Int)
  ·have:¬s.size≤40:=by omega
   simp(disch:=omega)only[rs];rw[decide_eq_false this];rfl
  ·have h2' :s.size≤40:=by omega
   rw[decide_eq_true h2'];have hL:qi0 s (s.size:Int) 0=some (bif (List.range s.size).all (fun i=>qav (byt s i))then .inl ()else .inr false):=by
    refine qck (fun i:Nat=>(i:Int)) s.size (bm (by omega)) _ () false ?_ ?_ ?_
    ·intro i hi hp;simp(disch:=omega)only[ph,q5w,hp,Bool.not_true,rs];rw[al]
    ·intro i hi hp;simp(disch:=omega)only[ph,q5w,hp,Bool.not_false,rs]
    ·simp(disch:=omega)only[ph,rs]
   simp(disch:=omega)only[qv2,hL,rs];cases qp6 (byt s 0)with
   |false=>rfl
   |true=>cases(List.range s.size).all (fun i=>qav (byt s i))<;>rfl
theorem qri(n:Nat)(p:Nat→Bool):(List.range (n+1)).all p=(p 0&&(List.range n).all fun i=>p (i+1)):=by
 rw[List.range_succ_eq_map,List.all_cons,List.all_map];rfl
theorem qy3(s:ByteArray):y8 s=some (qpd s):=by
 unfold y8 qpd;by_cases h1:(s.size:Int)<1
 ·have:¬1≤s.size:=by omega
  simp(disch:=omega)only[rs];rw[decide_eq_false this];rfl
 ·have h1' :1≤s.size:=by omega
  rw[decide_eq_true h1'];by_cases h2:40<(s.size:Int)
  ·have:¬s.size≤40:=by omega
   simp(disch:=omega)only[rs];rw[decide_eq_false this];rfl
  ·have h2' :s.size≤40:=by omega
   rw[decide_eq_true h2'];have hL:qhr s 1=some (bif (List.range (s.size-1)).all (fun i=>qav (byt s (i+1)))then .inl ()else .inr false):=by
    refine qck (fun i:Nat=>((i+1:Nat):Int)) (s.size-1) (bm (by omega)) _ () false ?_ ?_ ?_
    ·intro i hi hp;unfold qav at hp;simp(disch:=omega)only[n8,qez,rs];rw[al];revert hp;cases qp6 (byt s (i+1))<;>cases decide ((48:Int)≤byt s (i+1))<;>cases decide (byt s (i+1)≤(57:Int))<;>cases decide (byt s (i+1)=(95:Int))<;>cases decide (byt s (i+1)=(45:Int))<;>cases decide (byt s (i+1)=(46:Int))<;>intro hp<;>first|rfl|cases hp
    ·intro i hi hp;unfold qav at hp;simp(disch:=omega)only[n8,qez,rs];revert hp;cases qp6 (byt s (i+1))<;>cases decide ((48:Int)≤byt s (i+1))<;>cases decide (byt s (i+1)≤(57:Int))<;>cases decide (byt s (i+1)=(95:Int))<;>cases decide (byt s (i+1)=(45:Int))<;>cases decide (byt s (i+1)=(46:Int))<;>intro hp<;>first|rfl|cases hp
    ·have e:s.size-1+1=s.size:=by omega
     rw[e];simp(disch:=omega)only[n8,rs]
   simp(disch:=omega)only[qez,hL,rs];have e:s.size=s.size-1+1:=by omega
   have e2:(List.range s.size).all (fun i=>qav (byt s i))=(qav (byt s 0)&&(List.range (s.size-1)).all fun i=>qav (byt s (i+1))):=by
    conv=>lhs;rw[e]
    exact qri _ _
   rw[e2];have e3:qp6 (byt s 0)=true→qav (byt s 0)=true:=fun h=>by unfold qav;rw[h];rfl
   cases h:qp6 (byt s 0)with
   |false=>rfl
   |true=>
    rw[e3 h];cases(List.range (s.size-1)).all (fun i=>qav (byt s (i+1)))<;>rfl
def jaq(l:List Int)(x:Int):Bool:=l.any fun y=>decide (x=y)
theorem qzn(l:List Int)(h:l.length≤1000000)(x:Int):db l x=some (jaq l x):=by
 have hL:ui l x (l.length:Int) 0=some (qxp (fun i=>(i:Int)) (k9 (fun y=>decide (x=y)) l)):=by
  refine su l 0 (fun y=>decide (x=y)) (fun i=>(i:Int)) (by omega) (fun i hi=> ?_) ?_
  ·simp(disch:=omega)only[ji,rs];rw[al];cases decide (x=l.getD i 0)<;>rfl
  ·simp(disch:=omega)only[ji,rs]
 unfold db pu;rw[hL,i5,qei,i5,qlp];rfl
def qk4(N:Int)(l:List Int)(i:Nat):Bool:=decide (l.getD i 0<0)||decide (N≤l.getD i 0)||decide (0<i)&&decide (l.getD i 0≤l.getD (i-1) 0)
def za(N:Int)(l:List Int):Bool:=(List.range l.length).all fun i=> !qk4 N l i
theorem qmk(N:Int)(ts:List ag)(a b:Int)(l:List Int)(h:l.length≤1000000):qg9 l l (l.length:Int) N ts a b 0=some (bif (List.range l.length).all (fun i=> !qk4 N l i)then .inl ()else .inr false):=by
 have hst:∀i:Nat,i<l.length→lb l l (l.length:Int) N ts a b (R:=LR Int Unit Bool) (i:Int) (fun a' =>some (.next a')) (fun e=>some (.done e)) (fun r=>some (.ret r))=some (bif qk4 N l i then .ret false else .next ((i+1:Nat):Int)):=fun i hi=>by
  unfold qk4;by_cases h0:0<i
  ·have e:(i:Int)-1=((i-1:Nat):Int):=by omega
   have h0' :(0:Int)<(i:Int):=by omega
   rw[decide_eq_true h0];simp(disch:=omega)only[lb,e,rs];rw[al];cases decide (l.getD i 0<0)<;>cases decide (N≤l.getD i 0)<;>cases decide (l.getD i 0≤l.getD (i-1) 0)<;>rfl
  ·have h0' :¬(0:Int)<(i:Int):=by omega
   rw[decide_eq_false h0];simp(disch:=omega)only[lb,rs];rw[al];cases decide (l.getD i 0<0)<;>cases decide (N≤l.getD i 0)<;>rfl
 refine qck (fun i:Nat=>(i:Int)) l.length (bm (by omega)) _ () false (fun i hi hp=> ?_) (fun i hi hp=> ?_) ?_
 ·have hb:qk4 N l i=false:=by simpa using hp
  exact(hst i hi).trans (by rw[hb];rfl)
 ·have hb:qk4 N l i=true:=by simpa using hp
  exact(hst i hi).trans (by rw[hb];rfl)
 ·simp(disch:=omega)only[lb,rs]
theorem qms(N:Int)(ts:List ag)(a b:Int)(l:List Int)(h:l.length≤1000000):qhu N l 0=some (bif (List.range l.length).all (fun i=> !qk4 N l i)then .inl ()else .inr false):=by
 have hst:∀i:Nat,i<l.length→ld N l (R:=LR Int Unit Bool) (i:Int) (fun a' =>some (.next a')) (fun e=>some (.done e)) (fun r=>some (.ret r))=some (bif qk4 N l i then .ret false else .next ((i+1:Nat):Int)):=fun i hi=>by
  unfold qk4;by_cases h0:0<i
  ·have e:(i:Int)-1=((i-1:Nat):Int):=by omega
   have h0' :(0:Int)<(i:Int):=by omega
   rw[decide_eq_true h0];simp(disch:=omega)only[ld,e,rs];rw[al];cases decide (l.getD i 0<0)<;>cases decide (N≤l.getD i 0)<;>cases decide (l.getD i 0≤l.getD (i-1) 0)<;>rfl
  ·have h0' :¬(0:Int)<(i:Int):=by omega
   rw[decide_eq_false h0];simp(disch:=omega)only[ld,rs];rw[al];cases decide (l.getD i 0<0)<;>cases decide (N≤l.getD i 0)<;>rfl
 refine qck (fun i:Nat=>(i:Int)) l.length (bm (by omega)) _ () false (fun i hi hp=> ?_) (fun i hi hp=> ?_) ?_
 ·have hb:qk4 N l i=false:=by simpa using hp
  exact(hst i hi).trans (by rw[hb];rfl)
 ·have hb:qk4 N l i=true:=by simpa using hp
  exact(hst i hi).trans (by rw[hb];rfl)
 ·simp(disch:=omega)only[ld,rs]
theorem q83{b:Bool}:(lk (bif b then(.inl ():Unit⊕Bool)else .inr false) (fun _=>some true) fun r=>some r)=some b:=by cases b<;>rfl
theorem ro(n:cj)(l:List Int)(h:l.length≤1000000):j1 n l=some (za n.1 l):=by
 unfold j1 za;rw[qmk n.1 n.2.1 n.2.2.1 n.2.2.2.1 l h,i5,q83]
theorem qfy(N:Int)(l:List Int)(h:l.length≤1000000):nu N l=some (za N l):=by
 unfold nu za;rw[qms N [] 0 0 l h,i5,q83]
structure Small (n : cj) : Prop where
 trans : n.2.1.length ≤ 100
 ins : ∀ t ∈ n.2.1, t.2.1.length ≤ 60
 outs : ∀ t ∈ n.2.1, t.2.2.1.length ≤ 60
def qk5(N:Int)(t:ag):Bool:= !eqS t.1 ⟨#[]⟩&& !qpd t.1|| !za N t.2.1|| !za N t.2.2.1
def b9(n:cj):Bool:=decide (1≤n.1)&&decide (n.1≤40)&&decide (n.2.1.length≤60)&& !n.2.1.any (qk5 n.1)&&(decide (0≤n.2.2.1)&&decide (n.2.2.1<n.1))&&(decide (0≤n.2.2.2.1)&&decide (n.2.2.2.1<n.1))
theorem q1k(N x:Int):za N [x]=(decide (0≤x)&&decide (x<N)):=by
 unfold za qk4;rw[Bool.eq_iff_iff];simp
theorem qb9{n:cj}(h:Small n):lg n=some (b9 n):=by
 have hL:qi6 n.2.1 (n.2.1.length:Int) n.1 n.2.1 n.2.2.1 n.2.2.2.1 0=some (bif n.2.1.any (qk5 n.1)then .inr false else .inl ()):=by
  have hl:=h.trans;refine zm n.2.1 ag.z (qk5 n.1) false (by omega) (fun i hi=> ?_) ?_
  ·have h1:=h.ins _ (aw ag.z hi);have h2:=h.outs _ (aw ag.z hi);unfold qk5;simp(disch:=omega)only[q46,tw,q6s,rs];rw[ro _ _ (by omega),ro _ _ (by omega),al];simp only[i5];cases eqS (n.2.1.getD i ag.z).1 ⟨#[]⟩<;>cases qpd (n.2.1.getD i ag.z).1<;>cases za n.1 (n.2.1.getD i ag.z).2.1<;>cases za n.1 (n.2.1.getD i ag.z).2.2.1<;>rfl
  ·simp(disch:=omega)only[tw,rs]
 unfold lg b9;rw[hL,ro _ _ (by simp),ro _ _ (by simp),q1k,q1k];have e1:decide (1≤n.1)= !decide (n.1<1):=by rw[Bool.eq_iff_iff];simp
 have e2:decide (n.1≤40)= !decide (40<n.1):=by rw[Bool.eq_iff_iff];simp
 have e3:decide (n.2.1.length≤60)= !decide ((60:Int)<(n.2.1.length:Int)):=by rw[Bool.eq_iff_iff];simp;omega
 rw[e1,e2,e3];cases decide (n.1<1)<;>cases decide (40<n.1)<;>cases decide ((60:Int)<(n.2.1.length:Int))<;>cases n.2.1.any (qk5 n.1)<;>cases(decide (0≤n.2.2.1)&&decide (n.2.2.1<n.1))<;>cases(decide (0≤n.2.2.2.1)&&decide (n.2.2.2.1<n.1))<;>rfl
theorem qa6{n:cj}(h:Small n):pr n=some (b9 n):=by
 have hL:qjk n.1 n.2.1 n.2.2.1 n.2.2.2.1 0=some (bif n.2.1.any (qk5 n.1)then .inr false else .inl ()):=by
  have hl:=h.trans;refine zm n.2.1 ag.z (qk5 n.1) false (by omega) (fun i hi=> ?_) ?_
  ·have h1:=h.ins _ (aw ag.z hi);have h2:=h.outs _ (aw ag.z hi);unfold qk5;simp(disch:=omega)only[q46,ua,qy3,rs];rw[qfy _ _ (by omega),qfy _ _ (by omega),al];simp only[i5];cases eqS (n.2.1.getD i ag.z).1 ⟨#[]⟩<;>cases qpd (n.2.1.getD i ag.z).1<;>cases za n.1 (n.2.1.getD i ag.z).2.1<;>cases za n.1 (n.2.1.getD i ag.z).2.2.1<;>rfl
  ·simp(disch:=omega)only[ua,rs]
 unfold pr b9;rw[hL];have e1:decide (1≤n.1)= !decide (n.1<1):=by rw[Bool.eq_iff_iff];simp
 have e2:decide (n.1≤40)= !decide (40<n.1):=by rw[Bool.eq_iff_iff];simp
 have e3:decide (n.2.1.length≤60)= !decide ((60:Int)<(n.2.1.length:Int)):=by rw[Bool.eq_iff_iff];simp;omega
 have e4:∀x:Int,decide (0≤x)= !decide (x<0):=fun x=>by rw[Bool.eq_iff_iff];simp
 have e5:∀x:Int,decide (x<n.1)= !decide (n.1≤x):=fun x=>by rw[Bool.eq_iff_iff];simp
 rw[e1,e2,e3,e4 n.2.2.1,e4 n.2.2.2.1,e5 n.2.2.1,e5 n.2.2.2.1];cases decide (n.1<1)<;>cases decide (40<n.1)<;>cases decide ((60:Int)<(n.2.1.length:Int))<;>cases n.2.1.any (qk5 n.1)<;>cases decide (n.2.2.1<0)<;>cases decide (n.1≤n.2.2.1)<;>cases decide (n.2.2.2.1<0)<;>cases decide (n.1≤n.2.2.2.1)<;>rfl
theorem ue{N:Int}{l:List Int}:za N l=true↔(∀x∈l,0≤x∧x<N)∧l.Pairwise (·<·):=by
 unfold za;rw[List.all_eq_true];constructor
 ·intro h;have hq:∀i,i<l.length→(0≤l.getD i 0∧l.getD i 0<N)∧(0<i→l.getD (i-1) 0<l.getD i 0):=fun i hi=>by
   have:=h i (List.mem_range.2 hi);unfold qk4 at this;simp only[Bool.not_eq_true',Bool.or_eq_false_iff,Bool.and_eq_false_iff,decide_eq_false_iff_not]at this;refine⟨by omega,fun h0=> ?_⟩;rcases this.2 with h1|h1
   ·exact absurd h0 h1
   ·omega
  refine⟨fun x hx=> ?_,List.pairwise_iff_getElem.2 fun i j hi hj hij=> ?_⟩
  ·obtain⟨i,hi,rfl⟩:=ig 0 hx;exact(hq i hi).1
  ·have key:∀d,∀j,j=i+1+d→j<l.length→l.getD i 0<l.getD j 0:=by
    intro d
    induction d with
    |zero=>intro j hj hl;subst hj;exact(hq (i+1) hl).2 (by omega)
    |succ d ih=>
     intro j hj hl;have h1:=ih (i+1+d) rfl (by omega);have h2:=(hq j hl).2 (by omega);rw[show j-1=i+1+d by omega]at h2;omega
   have:=key (j-i-1) j (by omega) hj;rwa[jx l i 0 hi,jx l j 0 hj]at this
 ·rintro⟨h1,h2⟩ i hi;have hi:=List.mem_range.1 hi;have hb:=h1 _ (aw 0 hi);unfold qk4;simp only[Bool.not_eq_true',Bool.or_eq_false_iff,Bool.and_eq_false_iff,decide_eq_false_iff_not];refine⟨by omega,?_⟩;by_cases h0:0<i
  ·right;have:=List.pairwise_iff_getElem.1 h2 (i-1) i (by omega) hi (by omega);rw[jx l i 0 hi,jx l (i-1) 0 (by omega)];omega
  ·exact .inl h0
theorem qkz(l:List Int)(h:l.length≤1000000):cq l=some l:=by
 unfold cq j8;simp(disch:=omega)only[List.nil_append,rs]
end Go.Proofs.Ytokeielgplbdeaa
