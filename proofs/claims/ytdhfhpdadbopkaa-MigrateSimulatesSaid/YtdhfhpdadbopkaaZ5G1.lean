/-
  Freechoice: names, lists of places, nets: the program and the reference reckon alike.
-/
import Derived.Test.YtdhfhpdadbopkaaZ5Md
import Derived.Test.YtdhfhpdadbopkaaZ5KE
import Derived.KernelRfl
set_option linter.all false
namespace Go.Proofs.Ytdhfhpdadbopkaa
open Go.K Go.M
theorem q32:qg8=some true:=by kernel_rfl
def eqS(a b:ByteArray):Bool:=ByteArray.toList a==ByteArray.toList b
theorem qi0(a b:ByteArray):(ByteArray.toList a==ByteArray.toList b)=eqS a b:=rfl
def qr6(c:Int):Bool:=decide (65≤c)&&decide (c≤90)||decide (97≤c)&&decide (c≤122)
def qb6(c:Int):Bool:=qr6 c||decide (48≤c)&&decide (c≤57)||decide (c=95)||decide (c=45)||decide (c=46)
abbrev byt(s:ByteArray)(i:Nat):Int:=((ByteArray.data s).getD i 0).toNat
theorem qyz(c:Int):yb c=some (qr6 c):=by
 unfold yb qr6;cases decide ((65:Int)≤c)<;>cases decide (c≤(90:Int))<;>cases decide ((97:Int)≤c)<;>cases decide (c≤(122:Int))<;>rfl
theorem qe9(c:Int):uu c=some (qr6 c):=by
 unfold uu qr6;cases decide ((65:Int)≤c)<;>cases decide (c≤(90:Int))<;>cases decide ((97:Int)≤c)<;>cases decide (c≤(122:Int))<;>rfl
theorem q6m(c:Int):qi1 c=some (qb6 c):=by
 unfold qi1 qb6;rw[qyz,ba];cases qr6 c<;>cases decide ((48:Int)≤c)<;>cases decide (c≤(57:Int))<;>cases decide (c=(95:Int))<;>cases decide (c=(45:Int))<;>cases decide (c=(46:Int))<;>rfl
def qu6(s:ByteArray):Bool:=decide (1≤s.size)&&decide (s.size≤40)&&qr6 (byt s 0)&&(List.range s.size).all fun i=>qb6 (byt s i)
theorem q65(s:ByteArray):qb5 s=some (qu6 s):=by
 unfold qb5 qu6;by_cases h1:(s.size:Int)<1
 ·have:¬1≤s.size:=by omega
  simp(disch:=omega)only[rs];rw[decide_eq_false this];rfl
 ·have h1' :1≤s.size:=by omega
  rw[decide_eq_true h1'];by_cases h2:40<(s.size:Int)
  ·have:¬s.size≤40:=by omega
   simp(disch:=omega)only[rs];rw[decide_eq_false this];rfl
  ·have h2' :s.size≤40:=by omega
   rw[decide_eq_true h2'];have hL:qj8 s (s.size:Int) 0=some (bif (List.range s.size).all (fun i=>qb6 (byt s i))then .inl ()else .inr false):=by
    refine ov (fun i:Nat=>(i:Int)) s.size (ge (by omega)) _ () false ?_ ?_ ?_
    ·intro i hi hp;simp(disch:=omega)only[oz,q6m,hp,Bool.not_true,rs];rw[ao]
    ·intro i hi hp;simp(disch:=omega)only[oz,q6m,hp,Bool.not_false,rs]
    ·simp(disch:=omega)only[oz,rs]
   simp(disch:=omega)only[qyz,hL,rs];cases qr6 (byt s 0)with
   |false=>rfl
   |true=>cases(List.range s.size).all (fun i=>qb6 (byt s i))<;>rfl
theorem qto(n:Nat)(p:Nat→Bool):(List.range (n+1)).all p=(p 0&&(List.range n).all fun i=>p (i+1)):=by
 rw[List.range_succ_eq_map,List.all_cons,List.all_map];rfl
theorem q1j(s:ByteArray):qaa s=some (qu6 s):=by
 unfold qaa qu6;by_cases h1:(s.size:Int)<1
 ·have:¬1≤s.size:=by omega
  simp(disch:=omega)only[rs];rw[decide_eq_false this];rfl
 ·have h1' :1≤s.size:=by omega
  rw[decide_eq_true h1'];by_cases h2:40<(s.size:Int)
  ·have:¬s.size≤40:=by omega
   simp(disch:=omega)only[rs];rw[decide_eq_false this];rfl
  ·have h2' :s.size≤40:=by omega
   rw[decide_eq_true h2'];have hL:qh6 s 1=some (bif (List.range (s.size-1)).all (fun i=>qb6 (byt s (i+1)))then .inl ()else .inr false):=by
    refine ov (fun i:Nat=>((i+1:Nat):Int)) (s.size-1) (ge (by omega)) _ () false ?_ ?_ ?_
    ·intro i hi hp;unfold qb6 at hp;simp(disch:=omega)only[nv,qe9,rs];rw[ao];revert hp;cases qr6 (byt s (i+1))<;>cases decide ((48:Int)≤byt s (i+1))<;>cases decide (byt s (i+1)≤(57:Int))<;>cases decide (byt s (i+1)=(95:Int))<;>cases decide (byt s (i+1)=(45:Int))<;>cases decide (byt s (i+1)=(46:Int))<;>intro hp<;>first|rfl|cases hp
    ·intro i hi hp;unfold qb6 at hp;simp(disch:=omega)only[nv,qe9,rs];revert hp;cases qr6 (byt s (i+1))<;>cases decide ((48:Int)≤byt s (i+1))<;>cases decide (byt s (i+1)≤(57:Int))<;>cases decide (byt s (i+1)=(95:Int))<;>cases decide (byt s (i+1)=(45:Int))<;>cases decide (byt s (i+1)=(46:Int))<;>intro hp<;>first|rfl|cases hp
    ·have e:s.size-1+1=s.size:=by omega
     rw[e];simp(disch:=omega)only[nv,rs]
   simp(disch:=omega)only[qe9,hL,rs];have e:s.size=s.size-1+1:=by omega
   have e2:(List.range s.size).all (fun i=>qb6 (byt s i))=(qb6 (byt s 0)&&(List.range (s.size-1)).all fun i=>qb6 (byt s (i+1))):=by
    conv=>lhs;rw[e]
    exact qto _ _
   rw[e2];have e3:qr6 (byt s 0)=true→qb6 (byt s 0)=true:=fun h=>by unfold qb6;rw[h];rfl
   cases h:qr6 (byt s 0)with
   |false=>rfl
   |true=>
    rw[e3 h];cases(List.range (s.size-1)).all (fun i=>qb6 (byt s (i+1)))<;>rfl
def gn(l:List Int)(x:Int):Bool:=l.any fun y=>decide (x=y)
theorem qar{l:List Int}{x:Int}:gn l x=true↔x∈l:=by
 unfold gn;rw[List.any_eq_true];constructor
 ·rintro⟨y,hy,h⟩;rw[of_decide_eq_true h];exact hy
 ·intro h;exact⟨x,h,decide_eq_true rfl⟩
theorem qmw{l:List Int}{x:Int}:gn l x=false↔x∉l:=by
 rw[←qar];cases gn l x<;>simp
theorem qqw(l:List Int)(h:l.length≤1000000)(x:Int):ew l x=some (gn l x):=by
 have hL:vf l x (l.length:Int) 0=some (qt1 (fun i=>(i:Int)) (ot (fun y=>decide (x=y)) l)):=by
  refine n6 l 0 (fun y=>decide (x=y)) (fun i=>(i:Int)) (by omega) (fun i hi=> ?_) ?_
  ·simp(disch:=omega)only[il,rs];rw[ao];cases decide (x=l.getD i 0)<;>rfl
  ·simp(disch:=omega)only[il,rs]
 unfold ew pg;rw[hL,ba,zz,ba,qbs];rfl
theorem qaj(l:List Int)(h:l.length≤1000000)(x:Int):n9 l x=some (gn l x):=by
 have hL:qrm l x 0=some (bif l.any (fun y=>decide (y=x))then .inr true else .inl ()):=by
  refine l3 l 0 (fun y=>decide (y=x)) true (by omega) (fun i hi=> ?_) ?_
  ·simp(disch:=omega)only[qab,rs];rw[ao];cases decide (l.getD i 0=x)<;>rfl
  ·simp(disch:=omega)only[qab,rs]
 unfold n9 gn;have e:(l.any fun y=>decide (x=y))=l.any fun y=>decide (y=x):=q31 fun y _=>decide_eq_decide.2 ⟨Eq.symm,Eq.symm⟩
 rw[hL,ba,e];cases l.any (fun y=>decide (y=x))<;>rfl
def ql9(N:Int)(l:List Int)(i:Nat):Bool:=decide (l.getD i 0<0)||decide (N≤l.getD i 0)||decide (0<i)&&decide (l.getD i 0≤l.getD (i-1) 0)
def qj0(N:Int)(l:List Int):Bool:=(List.range l.length).all fun i=> !ql9 N l i
theorem qnj(N:Int)(ts:List ae)(a b:Int)(l:List Int)(h:l.length≤1000000):qh2 l l (l.length:Int) N ts a b 0=some (bif (List.range l.length).all (fun i=> !ql9 N l i)then .inl ()else .inr false):=by
 have hst:∀i:Nat,i<l.length→kz l l (l.length:Int) N ts a b (R:=LR Int Unit Bool) (i:Int) (fun a' =>some (.next a')) (fun e=>some (.done e)) (fun r=>some (.ret r))=some (bif ql9 N l i then .ret false else .next ((i+1:Nat):Int)):=fun i hi=>by
  unfold ql9;by_cases h0:0<i
  ·have e:(i:Int)-1=((i-1:Nat):Int):=by omega
   have h0' :(0:Int)<(i:Int):=by omega
   rw[decide_eq_true h0];simp(disch:=omega)only[kz,e,rs];rw[ao];cases decide (l.getD i 0<0)<;>cases decide (N≤l.getD i 0)<;>cases decide (l.getD i 0≤l.getD (i-1) 0)<;>rfl
  ·have h0' :¬(0:Int)<(i:Int):=by omega
   rw[decide_eq_false h0];simp(disch:=omega)only[kz,rs];rw[ao];cases decide (l.getD i 0<0)<;>cases decide (N≤l.getD i 0)<;>rfl
 refine ov (fun i:Nat=>(i:Int)) l.length (ge (by omega)) _ () false (fun i hi hp=> ?_) (fun i hi hp=> ?_) ?_
 ·have hb:ql9 N l i=false:=by simpa using hp
  exact(hst i hi).trans (by rw[hb];rfl)
 ·have hb:ql9 N l i=true:=by simpa using hp
  exact(hst i hi).trans (by rw[hb];rfl)
 ·simp(disch:=omega)only[kz,rs]
theorem qnw(N:Int)(ts:List ae)(a b:Int)(l:List Int)(h:l.length≤1000000):qik N l 0=some (bif (List.range l.length).all (fun i=> !ql9 N l i)then .inl ()else .inr false):=by
 have hst:∀i:Nat,i<l.length→k6 N l (R:=LR Int Unit Bool) (i:Int) (fun a' =>some (.next a')) (fun e=>some (.done e)) (fun r=>some (.ret r))=some (bif ql9 N l i then .ret false else .next ((i+1:Nat):Int)):=fun i hi=>by
  unfold ql9;by_cases h0:0<i
  ·have e:(i:Int)-1=((i-1:Nat):Int):=by omega
   have h0' :(0:Int)<(i:Int):=by omega
   rw[decide_eq_true h0];simp(disch:=omega)only[k6,e,rs];rw[ao];cases decide (l.getD i 0<0)<;>cases decide (N≤l.getD i 0)<;>cases decide (l.getD i 0≤l.getD (i-1) 0)<;>rfl
  ·have h0' :¬(0:Int)<(i:Int):=by omega
   rw[decide_eq_false h0];simp(disch:=omega)only[k6,rs];rw[ao];cases decide (l.getD i 0<0)<;>cases decide (N≤l.getD i 0)<;>rfl
 refine ov (fun i:Nat=>(i:Int)) l.length (ge (by omega)) _ () false (fun i hi hp=> ?_) (fun i hi hp=> ?_) ?_
 ·have hb:ql9 N l i=false:=by simpa using hp
  exact(hst i hi).trans (by rw[hb];rfl)
 ·have hb:ql9 N l i=true:=by simpa using hp
  exact(hst i hi).trans (by rw[hb];rfl)
 ·simp(disch:=omega)only[k6,rs]
theorem q8v{b:Bool}:(lk (bif b then(.inl ():Unit⊕Bool)else .inr false) (fun _=>some true) fun r=>some r)=some b:=by cases b<;>rfl
theorem rz(n:a8)(l:List Int)(h:l.length≤1000000):jf n l=some (qj0 n.1 l):=by
 unfold jf qj0;rw[qnj n.1 n.2.1 n.2.2.1 n.2.2.2.1 l h,ba,q8v]
theorem qgg(N:Int)(l:List Int)(h:l.length≤1000000):ng N l=some (qj0 N l):=by
 unfold ng qj0;rw[qnw N [] 0 0 l h,ba,q8v]
structure Small (n : a8) : Prop where
 trans : n.2.1.length ≤ 100
 ins : ∀ t ∈ n.2.1, t.2.1.length ≤ 60
 outs : ∀ t ∈ n.2.1, t.2.2.1.length ≤ 60
def qtr(N:Int)(t:ae):Bool:= !eqS t.1 ⟨#[]⟩&& !qu6 t.1|| !qj0 N t.2.1|| !qj0 N t.2.2.1
def dv(n:a8):Bool:=decide (1≤n.1)&&decide (n.1≤40)&&decide (n.2.1.length≤60)&& !n.2.1.any (qtr n.1)&&(decide (0≤n.2.2.1)&&decide (n.2.2.1<n.1))&&(decide (0≤n.2.2.2.1)&&decide (n.2.2.2.1<n.1))
theorem q3m(N x:Int):qj0 N [x]=(decide (0≤x)&&decide (x<N)):=by
 unfold qj0 ql9;rw[Bool.eq_iff_iff];simp
theorem qtm{n:a8}(h:Small n):o4 n=some (dv n):=by
 have hL:qke n.2.1 (n.2.1.length:Int) n.1 n.2.1 n.2.2.1 n.2.2.2.1 0=some (bif n.2.1.any (qtr n.1)then .inr false else .inl ()):=by
  have hl:=h.trans;refine l3 n.2.1 ae.z (qtr n.1) false (by omega) (fun i hi=> ?_) ?_
  ·have h1:=h.ins _ (az ae.z hi);have h2:=h.outs _ (az ae.z hi);unfold qtr;simp(disch:=omega)only[qi0,ul,q65,rs];rw[rz _ _ (by omega),rz _ _ (by omega),ao];simp only[ba];cases eqS (n.2.1.getD i ae.z).1 ⟨#[]⟩<;>cases qu6 (n.2.1.getD i ae.z).1<;>cases qj0 n.1 (n.2.1.getD i ae.z).2.1<;>cases qj0 n.1 (n.2.1.getD i ae.z).2.2.1<;>rfl
  ·simp(disch:=omega)only[ul,rs]
 unfold o4 dv;rw[hL,rz _ _ (by simp),rz _ _ (by simp),q3m,q3m];have e1:decide (1≤n.1)= !decide (n.1<1):=by rw[Bool.eq_iff_iff];simp
 have e2:decide (n.1≤40)= !decide (40<n.1):=by rw[Bool.eq_iff_iff];simp
 have e3:decide (n.2.1.length≤60)= !decide ((60:Int)<(n.2.1.length:Int)):=by rw[Bool.eq_iff_iff];simp;omega
 rw[e1,e2,e3];cases decide (n.1<1)<;>cases decide (40<n.1)<;>cases decide ((60:Int)<(n.2.1.length:Int))<;>cases n.2.1.any (qtr n.1)<;>cases(decide (0≤n.2.2.1)&&decide (n.2.2.1<n.1))<;>cases(decide (0≤n.2.2.2.1)&&decide (n.2.2.2.1<n.1))<;>rfl
theorem qrs{n:a8}(h:Small n):yd n=some (dv n):=by
 have hL:qkq n.1 n.2.1 n.2.2.1 n.2.2.2.1 0=some (bif n.2.1.any (qtr n.1)then .inr false else .inl ()):=by
  have hl:=h.trans;refine l3 n.2.1 ae.z (qtr n.1) false (by omega) (fun i hi=> ?_) ?_
  ·have h1:=h.ins _ (az ae.z hi);have h2:=h.outs _ (az ae.z hi);unfold qtr;simp(disch:=omega)only[qi0,uw,q1j,rs];rw[qgg _ _ (by omega),qgg _ _ (by omega),ao];simp only[ba];cases eqS (n.2.1.getD i ae.z).1 ⟨#[]⟩<;>cases qu6 (n.2.1.getD i ae.z).1<;>cases qj0 n.1 (n.2.1.getD i ae.z).2.1<;>cases qj0 n.1 (n.2.1.getD i ae.z).2.2.1<;>rfl
  ·simp(disch:=omega)only[uw,rs]
 unfold yd dv;rw[hL];have e1:decide (1≤n.1)= !decide (n.1<1):=by rw[Bool.eq_iff_iff];simp
 have e2:decide (n.1≤40)= !decide (40<n.1):=by rw[Bool.eq_iff_iff];simp
 have e3:decide (n.2.1.length≤60)= !decide ((60:Int)<(n.2.1.length:Int)):=by rw[Bool.eq_iff_iff];simp;omega
 have e4:∀x:Int,decide (0≤x)= !decide (x<0):=fun x=>by rw[Bool.eq_iff_iff];simp
 have e5:∀x:Int,decide (x<n.1)= !decide (n.1≤x):=fun x=>by rw[Bool.eq_iff_iff];simp
 rw[e1,e2,e3,e4 n.2.2.1,e4 n.2.2.2.1,e5 n.2.2.1,e5 n.2.2.2.1];cases decide (n.1<1)<;>cases decide (40<n.1)<;>cases decide ((60:Int)<(n.2.1.length:Int))<;>cases n.2.1.any (qtr n.1)<;>cases decide (n.2.2.1<0)<;>cases decide (n.1≤n.2.2.1)<;>cases decide (n.2.2.2.1<0)<;>cases decide (n.1≤n.2.2.2.1)<;>rfl
theorem qio{N:Int}{l:List Int}:qj0 N l=true↔(∀x∈l,0≤x∧x<N)∧l.Pairwise (·<·):=by
 unfold qj0;rw[List.all_eq_true];constructor
 ·intro h;have hq:∀i,i<l.length→(0≤l.getD i 0∧l.getD i 0<N)∧(0<i→l.getD (i-1) 0<l.getD i 0):=fun i hi=>by
   have:=h i (List.mem_range.2 hi);unfold ql9 at this;simp only[Bool.not_eq_true',Bool.or_eq_false_iff,Bool.and_eq_false_iff,decide_eq_false_iff_not]at this;refine⟨by omega,fun h0=> ?_⟩;rcases this.2 with h1|h1
   ·exact absurd h0 h1
   ·omega
  refine⟨fun x hx=> ?_,List.pairwise_iff_getElem.2 fun i j hi hj hij=> ?_⟩
  ·obtain⟨i,hi,rfl⟩:=ow 0 hx;exact(hq i hi).1
  ·have key:∀d,∀j,j=i+1+d→j<l.length→l.getD i 0<l.getD j 0:=by
    intro d
    induction d with
    |zero=>intro j hj hl;subst hj;exact(hq (i+1) hl).2 (by omega)
    |succ d ih=>
     intro j hj hl;have h1:=ih (i+1+d) rfl (by omega);have h2:=(hq j hl).2 (by omega);rw[show j-1=i+1+d by omega]at h2;omega
   have:=key (j-i-1) j (by omega) hj;rwa[t6 l i 0 hi,t6 l j 0 hj]at this
 ·rintro⟨h1,h2⟩ i hi;have hi:=List.mem_range.1 hi;have hb:=h1 _ (az 0 hi);unfold ql9;simp only[Bool.not_eq_true',Bool.or_eq_false_iff,Bool.and_eq_false_iff,decide_eq_false_iff_not];refine⟨by omega,?_⟩;by_cases h0:0<i
  ·right;have:=List.pairwise_iff_getElem.1 h2 (i-1) i (by omega) hi (by omega);rw[t6 l i 0 hi,t6 l (i-1) 0 (by omega)];omega
  ·exact .inl h0
theorem q8k(l:List Int)(h:l.length≤1000000):br l=some l:=by
 unfold br jg;simp(disch:=omega)only[List.nil_append,rs]
theorem qfc(a b:List Int)(ha:a.length≤1000000):n8 a b=some (decide (a=b)):=by
 unfold n8;by_cases hl:a.length=b.length
 ·rw[qiv (by simp[hl])];have hloop:qf9 a b 0=some (bif (List.range a.length).all (fun i=>decide (a.getD i 0=b.getD i 0))then .inl ()else .inr false):=by
   refine ov (fun i:Nat=>(i:Int)) a.length (ge (by omega)) _ () false ?_ ?_ ?_
   ·intro i hi hp;have hp' :a.getD i 0=b.getD i 0:=of_decide_eq_true hp;simp(disch:=omega)only[mi,rs];rw[ao]
   ·intro i hi hp;have hp' :a.getD i 0≠b.getD i 0:=of_decide_eq_false hp;simp(disch:=omega)only[mi,rs]
   ·simp(disch:=omega)only[mi,rs]
  rw[hloop,ba];have hall:(List.range a.length).all (fun i=>decide (a.getD i 0=b.getD i 0))=decide (a=b):=by
   rw[Bool.eq_iff_iff,List.all_eq_true,decide_eq_true_iff];constructor
   ·intro h;refine List.ext_getElem hl fun i h1 h2=> ?_
    have:=of_decide_eq_true (h i (List.mem_range.2 h1));rw[t6 a i 0 h1,t6 b i 0 h2]at this;exact this
   ·rintro rfl i _;simp
  rw[hall];cases decide (a=b)<;>rfl
 ·have:¬a=b:=fun h=>hl (by rw[h])
  rw[qiw (by simp;omega),decide_eq_false this]
end Go.Proofs.Ytdhfhpdadbopkaa
