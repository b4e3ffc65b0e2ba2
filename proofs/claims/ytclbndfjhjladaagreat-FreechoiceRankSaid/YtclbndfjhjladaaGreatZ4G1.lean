/-
  Freechoice: names, lists of places, nets: the program and the reference reckon alike.
-/
import Derived.Test.YtclbndfjhjladaaGreatZ4Md
import Derived.Test.YtclbndfjhjladaaGreatZ4KE
import Derived.KernelRfl
set_option linter.all false
namespace Go.Proofs.YtclbndfjhjladaaGreat
open Go.K Go.M
theorem jpf:qrz=some true:=by kernel_rfl
def eqS(a b:ByteArray):Bool:=ByteArray.toList a==ByteArray.toList b
theorem jr7(a b:ByteArray):(ByteArray.toList a==ByteArray.toList b)=eqS a b:=rfl
def q7w(c:Int):Bool:=decide (65≤c)&&decide (c≤90)||decide (97≤c)&&decide (c≤122)
def qiy(c:Int):Bool:=q7w c||decide (48≤c)&&decide (c≤57)||decide (c=95)||decide (c=45)||decide (c=46)
abbrev byt(s:ByteArray)(i:Nat):Int:=((ByteArray.data s).getD i 0).toNat
theorem jhr(c:Int):qeg c=some (q7w c):=by
 unfold qeg q7w;cases decide ((65:Int)≤c)<;>cases decide (c≤(90:Int))<;>cases decide ((97:Int)≤c)<;>cases decide (c≤(122:Int))<;>rfl
theorem qol(c:Int):qad c=some (q7w c):=by
 unfold qad q7w;cases decide ((65:Int)≤c)<;>cases decide (c≤(90:Int))<;>cases decide ((97:Int)≤c)<;>cases decide (c≤(122:Int))<;>rfl
theorem jsr(c:Int):qug c=some (qiy c):=by
 unfold qug qiy;rw[jhr,au];cases q7w c<;>cases decide ((48:Int)≤c)<;>cases decide (c≤(57:Int))<;>cases decide (c=(95:Int))<;>cases decide (c=(45:Int))<;>cases decide (c=(46:Int))<;>rfl
def jc4(s:ByteArray):Bool:=decide (1≤s.size)&&decide (s.size≤40)&&q7w (byt s 0)&&(List.range s.size).all fun i=>qiy (byt s i)
theorem jtn(s:ByteArray):qix s=some (jc4 s):=by
 unfold qix jc4;by_cases h1:(s.size:Int)<1
 ·have:¬1≤s.size:=by omega
  simp(disch:=omega)only[rs];rw[decide_eq_false this];rfl
 ·have h1' :1≤s.size:=by omega
  rw[decide_eq_true h1'];by_cases h2:40<(s.size:Int)
  ·have:¬s.size≤40:=by omega
   simp(disch:=omega)only[rs];rw[decide_eq_false this];rfl
  ·have h2' :s.size≤40:=by omega
   rw[decide_eq_true h2'];have hL:qvj s (s.size:Int) 0=some (bif (List.range s.size).all (fun i=>qiy (byt s i))then .inl ()else .inr false):=by
    refine fj (fun i:Nat=>(i:Int)) s.size (aw (by omega)) _ () false ?_ ?_ ?_
    ·intro i hi hp;simp(disch:=omega)only[tk,jsr,hp,Bool.not_true,rs];rw[ag]
    ·intro i hi hp;simp(disch:=omega)only[tk,jsr,hp,Bool.not_false,rs]
    ·simp(disch:=omega)only[tk,rs]
   simp(disch:=omega)only[jhr,hL,rs];cases q7w (byt s 0)with
   |false=>rfl
   |true=>cases(List.range s.size).all (fun i=>qiy (byt s i))<;>rfl
theorem ja8(n:Nat)(p:Nat→Bool):(List.range (n+1)).all p=(p 0&&(List.range n).all fun i=>p (i+1)):=by
 rw[List.range_succ_eq_map,List.all_cons,List.all_map];rfl
theorem jle(s:ByteArray):qge s=some (jc4 s):=by
 unfold qge jc4;by_cases h1:(s.size:Int)<1
 ·have:¬1≤s.size:=by omega
  simp(disch:=omega)only[rs];rw[decide_eq_false this];rfl
 ·have h1' :1≤s.size:=by omega
  rw[decide_eq_true h1'];by_cases h2:40<(s.size:Int)
  ·have:¬s.size≤40:=by omega
   simp(disch:=omega)only[rs];rw[decide_eq_false this];rfl
  ·have h2' :s.size≤40:=by omega
   rw[decide_eq_true h2'];have hL:qse s 1=some (bif (List.range (s.size-1)).all (fun i=>qiy (byt s (i+1)))then .inl ()else .inr false):=by
    refine fj (fun i:Nat=>((i+1:Nat):Int)) (s.size-1) (aw (by omega)) _ () false ?_ ?_ ?_
    ·intro i hi hp;unfold qiy at hp;simp(disch:=omega)only[qt,qol,rs];rw[ag];revert hp;cases q7w (byt s (i+1))<;>cases decide ((48:Int)≤byt s (i+1))<;>cases decide (byt s (i+1)≤(57:Int))<;>cases decide (byt s (i+1)=(95:Int))<;>cases decide (byt s (i+1)=(45:Int))<;>cases decide (byt s (i+1)=(46:Int))<;>intro hp<;>first|rfl|cases hp
    ·intro i hi hp;unfold qiy at hp;simp(disch:=omega)only[qt,qol,rs];revert hp;cases q7w (byt s (i+1))<;>cases decide ((48:Int)≤byt s (i+1))<;>cases decide (byt s (i+1)≤(57:Int))<;>cases decide (byt s (i+1)=(95:Int))<;>cases decide (byt s (i+1)=(45:Int))<;>cases decide (byt s (i+1)=(46:Int))<;>intro hp<;>first|rfl|cases hp
    ·have e:s.size-1+1=s.size:=by omega
     rw[e];simp(disch:=omega)only[qt,rs]
   simp(disch:=omega)only[qol,hL,rs];have e:s.size=s.size-1+1:=by omega
   have e2:(List.range s.size).all (fun i=>qiy (byt s i))=(qiy (byt s 0)&&(List.range (s.size-1)).all fun i=>qiy (byt s (i+1))):=by
    conv=>lhs;rw[e]
    exact ja8 _ _
   rw[e2];have e3:q7w (byt s 0)=true→qiy (byt s 0)=true:=fun h=>by unfold qiy;rw[h];rfl
   cases h:q7w (byt s 0)with
   |false=>rfl
   |true=>
    rw[e3 h];cases(List.range (s.size-1)).all (fun i=>qiy (byt s (i+1)))<;>rfl
def cn(l:List Int)(x:Int):Bool:=l.any fun y=>decide (x=y)
theorem iq{l:List Int}{x:Int}:cn l x=true↔x∈l:=by
 unfold cn;rw[List.any_eq_true];constructor
 ·rintro⟨y,hy,h⟩;rw[of_decide_eq_true h];exact hy
 ·intro h;exact⟨x,h,decide_eq_true rfl⟩
theorem qlm{l:List Int}{x:Int}:cn l x=false↔x∉l:=by
 rw[←iq];cases cn l x<;>simp
theorem om(l:List Int)(h:l.length≤1000000)(x:Int):bm l x=some (cn l x):=by
 have hL:qa6 l x (l.length:Int) 0=some (jfr (fun i=>(i:Int)) (qba (fun y=>decide (x=y)) l)):=by
  refine ua l 0 (fun y=>decide (x=y)) (fun i=>(i:Int)) (by omega) (fun i hi=> ?_) ?_
  ·simp(disch:=omega)only[i5,rs];rw[ag];cases decide (x=l.getD i 0)<;>rfl
  ·simp(disch:=omega)only[i5,rs]
 unfold bm tu;rw[hL,au,qis,au,qir];rfl
theorem rx(l:List Int)(h:l.length≤1000000)(x:Int):fm l x=some (cn l x):=by
 have hL:q6l l x 0=some (bif l.any (fun y=>decide (y=x))then .inr true else .inl ()):=by
  refine f7 l 0 (fun y=>decide (y=x)) true (by omega) (fun i hi=> ?_) ?_
  ·simp(disch:=omega)only[qgh,rs];rw[ag];cases decide (l.getD i 0=x)<;>rfl
  ·simp(disch:=omega)only[qgh,rs]
 unfold fm cn;have e:(l.any fun y=>decide (x=y))=l.any fun y=>decide (y=x):=ja9 fun y _=>decide_eq_decide.2 ⟨Eq.symm,Eq.symm⟩
 rw[hL,au,e];cases l.any (fun y=>decide (y=x))<;>rfl
def qyn(N:Int)(l:List Int)(i:Nat):Bool:=decide (l.getD i 0<0)||decide (N≤l.getD i 0)||decide (0<i)&&decide (l.getD i 0≤l.getD (i-1) 0)
def qqx(N:Int)(l:List Int):Bool:=(List.range l.length).all fun i=> !qyn N l i
theorem q0k(N:Int)(ts:List af)(a b:Int)(l:List Int)(h:l.length≤1000000):qr9 l l (l.length:Int) N ts a b 0=some (bif (List.range l.length).all (fun i=> !qyn N l i)then .inl ()else .inr false):=by
 have hst:∀i:Nat,i<l.length→ll l l (l.length:Int) N ts a b (R:=LR Int Unit Bool) (i:Int) (fun a' =>some (.next a')) (fun e=>some (.done e)) (fun r=>some (.ret r))=some (bif qyn N l i then .ret false else .next ((i+1:Nat):Int)):=fun i hi=>by
  unfold qyn;by_cases h0:0<i
  ·have e:(i:Int)-1=((i-1:Nat):Int):=by omega
   have h0' :(0:Int)<(i:Int):=by omega
   rw[decide_eq_true h0];simp(disch:=omega)only[ll,e,rs];rw[ag];cases decide (l.getD i 0<0)<;>cases decide (N≤l.getD i 0)<;>cases decide (l.getD i 0≤l.getD (i-1) 0)<;>rfl
  ·have h0' :¬(0:Int)<(i:Int):=by omega
   rw[decide_eq_false h0];simp(disch:=omega)only[ll,rs];rw[ag];cases decide (l.getD i 0<0)<;>cases decide (N≤l.getD i 0)<;>rfl
 refine fj (fun i:Nat=>(i:Int)) l.length (aw (by omega)) _ () false (fun i hi hp=> ?_) (fun i hi hp=> ?_) ?_
 ·have hb:qyn N l i=false:=by simpa using hp
  exact(hst i hi).trans (by rw[hb];rfl)
 ·have hb:qyn N l i=true:=by simpa using hp
  exact(hst i hi).trans (by rw[hb];rfl)
 ·simp(disch:=omega)only[ll,rs]
theorem q04(N:Int)(ts:List af)(a b:Int)(l:List Int)(h:l.length≤1000000):qsw N l 0=some (bif (List.range l.length).all (fun i=> !qyn N l i)then .inl ()else .inr false):=by
 have hst:∀i:Nat,i<l.length→ln N l (R:=LR Int Unit Bool) (i:Int) (fun a' =>some (.next a')) (fun e=>some (.done e)) (fun r=>some (.ret r))=some (bif qyn N l i then .ret false else .next ((i+1:Nat):Int)):=fun i hi=>by
  unfold qyn;by_cases h0:0<i
  ·have e:(i:Int)-1=((i-1:Nat):Int):=by omega
   have h0' :(0:Int)<(i:Int):=by omega
   rw[decide_eq_true h0];simp(disch:=omega)only[ln,e,rs];rw[ag];cases decide (l.getD i 0<0)<;>cases decide (N≤l.getD i 0)<;>cases decide (l.getD i 0≤l.getD (i-1) 0)<;>rfl
  ·have h0' :¬(0:Int)<(i:Int):=by omega
   rw[decide_eq_false h0];simp(disch:=omega)only[ln,rs];rw[ag];cases decide (l.getD i 0<0)<;>cases decide (N≤l.getD i 0)<;>rfl
 refine fj (fun i:Nat=>(i:Int)) l.length (aw (by omega)) _ () false (fun i hi hp=> ?_) (fun i hi hp=> ?_) ?_
 ·have hb:qyn N l i=false:=by simpa using hp
  exact(hst i hi).trans (by rw[hb];rfl)
 ·have hb:qyn N l i=true:=by simpa using hp
  exact(hst i hi).trans (by rw[hb];rfl)
 ·simp(disch:=omega)only[ln,rs]
theorem jwg{b:Bool}:(lk (bif b then(.inl ():Unit⊕Bool)else .inr false) (fun _=>some true) fun r=>some r)=some b:=by cases b<;>rfl
theorem wn(n:ca)(l:List Int)(h:l.length≤1000000):jo n l=some (qqx n.1 l):=by
 unfold jo qqx;rw[q0k n.1 n.2.1 n.2.2.1 n.2.2.2.1 l h,au,jwg]
theorem qpp(N:Int)(l:List Int)(h:l.length≤1000000):qa N l=some (qqx N l):=by
 unfold qa qqx;rw[q04 N [] 0 0 l h,au,jwg]
structure Small (n : ca) : Prop where
 trans : n.2.1.length ≤ 100
 ins : ∀ t ∈ n.2.1, t.2.1.length ≤ 60
 outs : ∀ t ∈ n.2.1, t.2.2.1.length ≤ 60
def q7i(N:Int)(t:af):Bool:= !eqS t.1 ⟨#[]⟩&& !jc4 t.1|| !qqx N t.2.1|| !qqx N t.2.2.1
def c6(n:ca):Bool:=decide (1≤n.1)&&decide (n.1≤40)&&decide (n.2.1.length≤60)&& !n.2.1.any (q7i n.1)&&(decide (0≤n.2.2.1)&&decide (n.2.2.1<n.1))&&(decide (0≤n.2.2.2.1)&&decide (n.2.2.2.1<n.1))
theorem q15(N x:Int):qqx N [x]=(decide (0≤x)&&decide (x<N)):=by
 unfold qqx qyn;rw[Bool.eq_iff_iff];simp
theorem yu{n:ca}(h:Small n):gb n=some (c6 n):=by
 have hL:qvp n.2.1 (n.2.1.length:Int) n.1 n.2.1 n.2.2.1 n.2.2.2.1 0=some (bif n.2.1.any (q7i n.1)then .inr false else .inl ()):=by
  have hl:=h.trans;refine f7 n.2.1 af.z (q7i n.1) false (by omega) (fun i hi=> ?_) ?_
  ·have h1:=h.ins _ (ao af.z hi);have h2:=h.outs _ (ao af.z hi);unfold q7i;simp(disch:=omega)only[jr7,z9,jtn,rs];rw[wn _ _ (by omega),wn _ _ (by omega),ag];simp only[au];cases eqS (n.2.1.getD i af.z).1 ⟨#[]⟩<;>cases jc4 (n.2.1.getD i af.z).1<;>cases qqx n.1 (n.2.1.getD i af.z).2.1<;>cases qqx n.1 (n.2.1.getD i af.z).2.2.1<;>rfl
  ·simp(disch:=omega)only[z9,rs]
 unfold gb c6;rw[hL,wn _ _ (by simp),wn _ _ (by simp),q15,q15];have e1:decide (1≤n.1)= !decide (n.1<1):=by rw[Bool.eq_iff_iff];simp
 have e2:decide (n.1≤40)= !decide (40<n.1):=by rw[Bool.eq_iff_iff];simp
 have e3:decide (n.2.1.length≤60)= !decide ((60:Int)<(n.2.1.length:Int)):=by rw[Bool.eq_iff_iff];simp;omega
 rw[e1,e2,e3];cases decide (n.1<1)<;>cases decide (40<n.1)<;>cases decide ((60:Int)<(n.2.1.length:Int))<;>cases n.2.1.any (q7i n.1)<;>cases(decide (0≤n.2.2.1)&&decide (n.2.2.1<n.1))<;>cases(decide (0≤n.2.2.2.1)&&decide (n.2.2.2.1<n.1))<;>rfl
theorem oq{n:ca}(h:Small n):l5 n=some (c6 n):=by
 have hL:qv8 n.1 n.2.1 n.2.2.1 n.2.2.2.1 0=some (bif n.2.1.any (q7i n.1)then .inr false else .inl ()):=by
  have hl:=h.trans;refine f7 n.2.1 af.z (q7i n.1) false (by omega) (fun i hi=> ?_) ?_
  ·have h1:=h.ins _ (ao af.z hi);have h2:=h.outs _ (ao af.z hi);unfold q7i;simp(disch:=omega)only[jr7,qah,jle,rs];rw[qpp _ _ (by omega),qpp _ _ (by omega),ag];simp only[au];cases eqS (n.2.1.getD i af.z).1 ⟨#[]⟩<;>cases jc4 (n.2.1.getD i af.z).1<;>cases qqx n.1 (n.2.1.getD i af.z).2.1<;>cases qqx n.1 (n.2.1.getD i af.z).2.2.1<;>rfl
  ·simp(disch:=omega)only[qah,rs]
 unfold l5 c6;rw[hL];have e1:decide (1≤n.1)= !decide (n.1<1):=by rw[Bool.eq_iff_iff];simp
 have e2:decide (n.1≤40)= !decide (40<n.1):=by rw[Bool.eq_iff_iff];simp
 have e3:decide (n.2.1.length≤60)= !decide ((60:Int)<(n.2.1.length:Int)):=by rw[Bool.eq_iff_iff];simp;omega
 have e4:∀x:Int,decide (0≤x)= !decide (x<0):=fun x=>by rw[Bool.eq_iff_iff];simp
 have e5:∀x:Int,decide (x<n.1)= !decide (n.1≤x):=fun x=>by rw[Bool.eq_iff_iff];simp
 rw[e1,e2,e3,e4 n.2.2.1,e4 n.2.2.2.1,e5 n.2.2.1,e5 n.2.2.2.1];cases decide (n.1<1)<;>cases decide (40<n.1)<;>cases decide ((60:Int)<(n.2.1.length:Int))<;>cases n.2.1.any (q7i n.1)<;>cases decide (n.2.2.1<0)<;>cases decide (n.1≤n.2.2.1)<;>cases decide (n.2.2.2.1<0)<;>cases decide (n.1≤n.2.2.2.1)<;>rfl
theorem q14{N:Int}{l:List Int}:qqx N l=true↔(∀x∈l,0≤x∧x<N)∧l.Pairwise (·<·):=by
 unfold qqx;rw[List.all_eq_true];constructor
 ·intro h;have hq:∀i,i<l.length→(0≤l.getD i 0∧l.getD i 0<N)∧(0<i→l.getD (i-1) 0<l.getD i 0):=fun i hi=>by
   have:=h i (List.mem_range.2 hi);unfold qyn at this;simp only[Bool.not_eq_true',Bool.or_eq_false_iff,Bool.and_eq_false_iff,decide_eq_false_iff_not]at this;refine⟨by omega,fun h0=> ?_⟩;rcases this.2 with h1|h1
   ·exact absurd h0 h1
   ·omega
  refine⟨fun x hx=> ?_,List.pairwise_iff_getElem.2 fun i j hi hj hij=> ?_⟩
  ·obtain⟨i,hi,rfl⟩:=tj 0 hx;exact(hq i hi).1
  ·have key:∀d,∀j,j=i+1+d→j<l.length→l.getD i 0<l.getD j 0:=by
    intro d
    induction d with
    |zero=>intro j hj hl;subst hj;exact(hq (i+1) hl).2 (by omega)
    |succ d ih=>
     intro j hj hl;have h1:=ih (i+1+d) rfl (by omega);have h2:=(hq j hl).2 (by omega);rw[show j-1=i+1+d by omega]at h2;omega
   have:=key (j-i-1) j (by omega) hj;rwa[sm l i 0 hi,sm l j 0 hj]at this
 ·rintro⟨h1,h2⟩ i hi;have hi:=List.mem_range.1 hi;have hb:=h1 _ (ao 0 hi);unfold qyn;simp only[Bool.not_eq_true',Bool.or_eq_false_iff,Bool.and_eq_false_iff,decide_eq_false_iff_not];refine⟨by omega,?_⟩;by_cases h0:0<i
  ·right;have:=List.pairwise_iff_getElem.1 h2 (i-1) i (by omega) hi (by omega);rw[sm l i 0 hi,sm l (i-1) 0 (by omega)];omega
  ·exact .inl h0
theorem vg(l:List Int)(h:l.length≤1000000):b8 l=some l:=by
 unfold b8 jp;simp(disch:=omega)only[List.nil_append,rs]
theorem jfc(a b:List Int)(ha:a.length≤1000000):qdk a b=some (decide (a=b)):=by
 unfold qdk;by_cases hl:a.length=b.length
 ·rw[qt9 (by simp[hl])];have hloop:qpk a b 0=some (bif (List.range a.length).all (fun i=>decide (a.getD i 0=b.getD i 0))then .inl ()else .inr false):=by
   refine fj (fun i:Nat=>(i:Int)) a.length (aw (by omega)) _ () false ?_ ?_ ?_
   ·intro i hi hp;have hp' :a.getD i 0=b.getD i 0:=of_decide_eq_true hp;simp(disch:=omega)only[nt,rs];rw[ag]
   ·intro i hi hp;have hp' :a.getD i 0≠b.getD i 0:=of_decide_eq_false hp;simp(disch:=omega)only[nt,rs]
   ·simp(disch:=omega)only[nt,rs]
  rw[hloop,au];have hall:(List.range a.length).all (fun i=>decide (a.getD i 0=b.getD i 0))=decide (a=b):=by
   rw[Bool.eq_iff_iff,List.all_eq_true,decide_eq_true_iff];constructor
   ·intro h;refine List.ext_getElem hl fun i h1 h2=> ?_
    have:=of_decide_eq_true (h i (List.mem_range.2 h1));rw[sm a i 0 h1,sm b i 0 h2]at this;exact this
   ·rintro rfl i _;simp
  rw[hall];cases decide (a=b)<;>rfl
 ·have:¬a=b:=fun h=>hl (by rw[h])
  rw[qua (by simp;omega),decide_eq_false this]
theorem jxc(n:ca):∃b,qiu n=some b∧(b=false→Small n∧(n.2.1.length≤12∨60≤n.2.1.length)∧(n.1≤12∨40<n.1)):=by
 have h1:∀t:af,qdh t=some (decide ((60:Int)<(t.2.1.length:Int))||decide ((60:Int)<(t.2.2.1.length:Int))||decide ((100:Int)<(t.1.size:Int))):=fun t=>by
  unfold qdh;cases decide ((60:Int)<(t.2.1.length:Int))<;>cases decide ((60:Int)<(t.2.2.1.length:Int))<;>rfl
 have hC:n.2.1.length≤80→bg n.2.1=some (n.2.1.any fun t=>decide ((60:Int)<(t.2.1.length:Int))||decide ((60:Int)<(t.2.2.1.length:Int))||decide ((100:Int)<(t.1.size:Int))):=fun hl=>by
  have hL:gc n.2.1 (n.2.1.length:Int) 0=some (jfr (fun i=>(i:Int)) (qba (fun t:af=>decide ((60:Int)<(t.2.1.length:Int))||decide ((60:Int)<(t.2.2.1.length:Int))||decide ((100:Int)<(t.1.size:Int))) n.2.1)):=by
   refine ua n.2.1 af.z (fun t:af=>decide ((60:Int)<(t.2.1.length:Int))||decide ((60:Int)<(t.2.2.1.length:Int))||decide ((100:Int)<(t.1.size:Int))) (fun i=>(i:Int)) (by omega) (fun i hi=> ?_) ?_
   ·simp(disch:=omega)only[ck,h1,rs];rw[ag];exact qm0
   ·simp(disch:=omega)only[ck,rs]
  unfold bg dj;rw[hL,au,qis,au,qir]
 have hF:n.2.1.length≤80→(n.2.1.any fun t=>decide ((60:Int)<(t.2.1.length:Int))||decide ((60:Int)<(t.2.2.1.length:Int))||decide ((100:Int)<(t.1.size:Int)))=false→Small n:=fun hl ha=>by
  have key:∀t∈n.2.1,t.2.1.length≤60∧t.2.2.1.length≤60:=fun t ht=>by
   have:=List.any_eq_false.1 ha t ht;simp only[Bool.or_eq_true,decide_eq_true_eq,not_or]at this;omega
  exact⟨by omega,fun t ht=>(key t ht).1,fun t ht=>(key t ht).2⟩
 unfold qiu;by_cases c1:(80:Int)<(n.2.1.length:Int)
 ·refine⟨true,?_,fun h=>by cases h⟩;by_cases c2:(12:Int)<n.1<;>by_cases c3:n.1≤40<;>(first|omega|simp(disch:=omega)only[rs])
 ·have hl:n.2.1.length≤80:=by omega
  by_cases c3:(12:Int)<n.1
  ·by_cases c4:n.1≤40
   ·exact⟨true,by simp(disch:=omega)only[rs],fun h=>by cases h⟩
   ·by_cases c2:(12:Int)<(n.2.1.length:Int)
    ·by_cases c5:(n.2.1.length:Int)<60
     ·exact⟨true,by simp(disch:=omega)only[rs],fun h=>by cases h⟩
     ·exact⟨_,by simp(disch:=omega)only[hC hl,rs],fun h=>⟨hF hl h,by omega,by omega⟩⟩
    ·exact⟨_,by simp(disch:=omega)only[hC hl,rs],fun h=>⟨hF hl h,by omega,by omega⟩⟩
  ·by_cases c2:(12:Int)<(n.2.1.length:Int)
   ·by_cases c5:(n.2.1.length:Int)<60
    ·exact⟨true,by simp(disch:=omega)only[rs],fun h=>by cases h⟩
    ·exact⟨_,by simp(disch:=omega)only[hC hl,rs],fun h=>⟨hF hl h,by omega,by omega⟩⟩
   ·exact⟨_,by simp(disch:=omega)only[hC hl,rs],fun h=>⟨hF hl h,by omega,by omega⟩⟩
end Go.Proofs.YtclbndfjhjladaaGreat
