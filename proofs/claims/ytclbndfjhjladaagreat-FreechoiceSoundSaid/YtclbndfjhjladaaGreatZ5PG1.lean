/-
  Freechoice: names, lists of places, nets: the program and the reference reckon alike.
-/
import Derived.Test.YtclbndfjhjladaaGreatZ5Md
import Derived.Test.YtclbndfjhjladaaGreatZ5KE
import Derived.Test.YtclbndfjhjladaaGreatZ5Ky
set_option linter.all false
namespace Go.Proofs.YtclbndfjhjladaaGreat
open Go.K Go.M
theorem jgv:qpt=some true:=by kernel_rfl
def eqS(a b:ByteArray):Bool:=ByteArray.toList a==ByteArray.toList b
theorem jjw(a b:ByteArray):(ByteArray.toList a==ByteArray.toList b)=eqS a b:=rfl
def q2l(c:Int):Bool:=decide (65≤c)&&decide (c≤90)||decide (97≤c)&&decide (c≤122)
def qhq(c:Int):Bool:=q2l c||decide (48≤c)&&decide (c≤57)||decide (c=95)||decide (c=45)||decide (c=46)
abbrev byt(s:ByteArray)(i:Nat):Int:=((ByteArray.data s).getD i 0).toNat
theorem q9u(c:Int):qdm c=some (q2l c):=by
 unfold qdm q2l;cases decide ((65:Int)≤c)<;>cases decide (c≤(90:Int))<;>cases decide ((97:Int)≤c)<;>cases decide (c≤(122:Int))<;>rfl
theorem qmh(c:Int):zz c=some (q2l c):=by
 unfold zz q2l;cases decide ((65:Int)≤c)<;>cases decide (c≤(90:Int))<;>cases decide ((97:Int)≤c)<;>cases decide (c≤(122:Int))<;>rfl
theorem jkg(c:Int):qq7 c=some (qhq c):=by
 unfold qq7 qhq;rw[q9u,ax];cases q2l c<;>cases decide ((48:Int)≤c)<;>cases decide (c≤(57:Int))<;>cases decide (c=(95:Int))<;>cases decide (c=(45:Int))<;>cases decide (c=(46:Int))<;>rfl
def q6h(s:ByteArray):Bool:=decide (1≤s.size)&&decide (s.size≤40)&&q2l (byt s 0)&&(List.range s.size).all fun i=>qhq (byt s i)
theorem jlk(s:ByteArray):qhp s=some (q6h s):=by
 unfold qhp q6h;by_cases h1:(s.size:Int)<1
 ·have:¬1≤s.size:=by omega
  simp(disch:=omega)only[rs];rw[decide_eq_false this];rfl
 ·have h1' :1≤s.size:=by omega
  rw[decide_eq_true h1'];by_cases h2:40<(s.size:Int)
  ·have:¬s.size≤40:=by omega
   simp(disch:=omega)only[rs];rw[decide_eq_false this];rfl
  ·have h2' :s.size≤40:=by omega
   rw[decide_eq_true h2'];have hL:qr9 s (s.size:Int) 0=some (bif (List.range s.size).all (fun i=>qhq (byt s i))then .inl ()else .inr false):=by
    refine rb (fun i:Nat=>(i:Int)) s.size (bc (by omega)) _ () false ?_ ?_ ?_
    ·intro i hi hp;simp(disch:=omega)only[t9,jkg,hp,Bool.not_true,rs];rw[ah]
    ·intro i hi hp;simp(disch:=omega)only[t9,jkg,hp,Bool.not_false,rs]
    ·simp(disch:=omega)only[t9,rs]
   simp(disch:=omega)only[q9u,hL,rs];cases q2l (byt s 0)with
   |false=>rfl
   |true=>cases(List.range s.size).all (fun i=>qhq (byt s i))<;>rfl
theorem q4h(n:Nat)(p:Nat→Bool):(List.range (n+1)).all p=(p 0&&(List.range n).all fun i=>p (i+1)):=by
 rw[List.range_succ_eq_map,List.all_cons,List.all_map];rfl
theorem jc7(s:ByteArray):qfd s=some (q6h s):=by
 unfold qfd q6h;by_cases h1:(s.size:Int)<1
 ·have:¬1≤s.size:=by omega
  simp(disch:=omega)only[rs];rw[decide_eq_false this];rfl
 ·have h1' :1≤s.size:=by omega
  rw[decide_eq_true h1'];by_cases h2:40<(s.size:Int)
  ·have:¬s.size≤40:=by omega
   simp(disch:=omega)only[rs];rw[decide_eq_false this];rfl
  ·have h2' :s.size≤40:=by omega
   rw[decide_eq_true h2'];have hL:qqb s 1=some (bif (List.range (s.size-1)).all (fun i=>qhq (byt s (i+1)))then .inl ()else .inr false):=by
    refine rb (fun i:Nat=>((i+1:Nat):Int)) (s.size-1) (bc (by omega)) _ () false ?_ ?_ ?_
    ·intro i hi hp;unfold qhq at hp;simp(disch:=omega)only[rg,qmh,rs];rw[ah];revert hp;cases q2l (byt s (i+1))<;>cases decide ((48:Int)≤byt s (i+1))<;>cases decide (byt s (i+1)≤(57:Int))<;>cases decide (byt s (i+1)=(95:Int))<;>cases decide (byt s (i+1)=(45:Int))<;>cases decide (byt s (i+1)=(46:Int))<;>intro hp<;>first|rfl|cases hp
    ·intro i hi hp;unfold qhq at hp;simp(disch:=omega)only[rg,qmh,rs];revert hp;cases q2l (byt s (i+1))<;>cases decide ((48:Int)≤byt s (i+1))<;>cases decide (byt s (i+1)≤(57:Int))<;>cases decide (byt s (i+1)=(95:Int))<;>cases decide (byt s (i+1)=(45:Int))<;>cases decide (byt s (i+1)=(46:Int))<;>intro hp<;>first|rfl|cases hp
    ·have e:s.size-1+1=s.size:=by omega
     rw[e];simp(disch:=omega)only[rg,rs]
   simp(disch:=omega)only[qmh,hL,rs];have e:s.size=s.size-1+1:=by omega
   have e2:(List.range s.size).all (fun i=>qhq (byt s i))=(qhq (byt s 0)&&(List.range (s.size-1)).all fun i=>qhq (byt s (i+1))):=by
    conv=>lhs;rw[e]
    exact q4h _ _
   rw[e2];have e3:q2l (byt s 0)=true→qhq (byt s 0)=true:=fun h=>by unfold qhq;rw[h];rfl
   cases h:q2l (byt s 0)with
   |false=>rfl
   |true=>
    rw[e3 h];cases(List.range (s.size-1)).all (fun i=>qhq (byt s (i+1)))<;>rfl
def dj(l:List Int)(x:Int):Bool:=l.any fun y=>decide (x=y)
theorem f9{l:List Int}{x:Int}:dj l x=true↔x∈l:=by
 unfold dj;rw[List.any_eq_true];constructor
 ·rintro⟨y,hy,h⟩;rw[of_decide_eq_true h];exact hy
 ·intro h;exact⟨x,h,decide_eq_true rfl⟩
theorem qdl{l:List Int}{x:Int}:dj l x=false↔x∉l:=by
 rw[←f9];cases dj l x<;>simp
theorem o8(l:List Int)(h:l.length≤1000000)(x:Int):bj l x=some (dj l x):=by
 have hL:qap l x (l.length:Int) 0=some (q4y (fun i=>(i:Int)) (vx (fun y=>decide (x=y)) l)):=by
  refine sq l 0 (fun y=>decide (x=y)) (fun i=>(i:Int)) (by omega) (fun i hi=> ?_) ?_
  ·simp(disch:=omega)only[jx,rs];rw[ah];cases decide (x=l.getD i 0)<;>rfl
  ·simp(disch:=omega)only[jx,rs]
 unfold bj ue;rw[hL,ax,qe8,ax,qhk];rfl
theorem qfq(l:List Int)(h:l.length≤1000000)(x:Int):ss l x=some (dj l x):=by
 have hL:q1e l x 0=some (bif l.any (fun y=>decide (y=x))then .inr true else .inl ()):=by
  refine na l 0 (fun y=>decide (y=x)) true (by omega) (fun i hi=> ?_) ?_
  ·simp(disch:=omega)only[qfe,rs];rw[ah];cases decide (l.getD i 0=x)<;>rfl
  ·simp(disch:=omega)only[qfe,rs]
 unfold ss dj;have e:(l.any fun y=>decide (x=y))=l.any fun y=>decide (y=x):=jgu fun y _=>decide_eq_decide.2 ⟨Eq.symm,Eq.symm⟩
 rw[hL,ax,e];cases l.any (fun y=>decide (y=x))<;>rfl
def qub(N:Int)(l:List Int)(i:Nat):Bool:=decide (l.getD i 0<0)||decide (N≤l.getD i 0)||decide (0<i)&&decide (l.getD i 0≤l.getD (i-1) 0)
def qor(N:Int)(l:List Int):Bool:=(List.range l.length).all fun i=> !qub N l i
theorem qwa(N:Int)(ts:List ae)(a b:Int)(l:List Int)(h:l.length≤1000000):qp5 l l (l.length:Int) N ts a b 0=some (bif (List.range l.length).all (fun i=> !qub N l i)then .inl ()else .inr false):=by
 have hst:∀i:Nat,i<l.length→mi l l (l.length:Int) N ts a b (R:=LR Int Unit Bool) (i:Int) (fun a' =>some (.next a')) (fun e=>some (.done e)) (fun r=>some (.ret r))=some (bif qub N l i then .ret false else .next ((i+1:Nat):Int)):=fun i hi=>by
  unfold qub;by_cases h0:0<i
  ·have e:(i:Int)-1=((i-1:Nat):Int):=by omega
   have h0' :(0:Int)<(i:Int):=by omega
   rw[decide_eq_true h0];simp(disch:=omega)only[mi,e,rs];rw[ah];cases decide (l.getD i 0<0)<;>cases decide (N≤l.getD i 0)<;>cases decide (l.getD i 0≤l.getD (i-1) 0)<;>rfl
  ·have h0' :¬(0:Int)<(i:Int):=by omega
   rw[decide_eq_false h0];simp(disch:=omega)only[mi,rs];rw[ah];cases decide (l.getD i 0<0)<;>cases decide (N≤l.getD i 0)<;>rfl
 refine rb (fun i:Nat=>(i:Int)) l.length (bc (by omega)) _ () false (fun i hi hp=> ?_) (fun i hi hp=> ?_) ?_
 ·have hb:qub N l i=false:=by simpa using hp
  exact(hst i hi).trans (by rw[hb];rfl)
 ·have hb:qub N l i=true:=by simpa using hp
  exact(hst i hi).trans (by rw[hb];rfl)
 ·simp(disch:=omega)only[mi,rs]
theorem qwj(N:Int)(ts:List ae)(a b:Int)(l:List Int)(h:l.length≤1000000):qqk N l 0=some (bif (List.range l.length).all (fun i=> !qub N l i)then .inl ()else .inr false):=by
 have hst:∀i:Nat,i<l.length→mj N l (R:=LR Int Unit Bool) (i:Int) (fun a' =>some (.next a')) (fun e=>some (.done e)) (fun r=>some (.ret r))=some (bif qub N l i then .ret false else .next ((i+1:Nat):Int)):=fun i hi=>by
  unfold qub;by_cases h0:0<i
  ·have e:(i:Int)-1=((i-1:Nat):Int):=by omega
   have h0' :(0:Int)<(i:Int):=by omega
   rw[decide_eq_true h0];simp(disch:=omega)only[mj,e,rs];rw[ah];cases decide (l.getD i 0<0)<;>cases decide (N≤l.getD i 0)<;>cases decide (l.getD i 0≤l.getD (i-1) 0)<;>rfl
  ·have h0' :¬(0:Int)<(i:Int):=by omega
   rw[decide_eq_false h0];simp(disch:=omega)only[mj,rs];rw[ah];cases decide (l.getD i 0<0)<;>cases decide (N≤l.getD i 0)<;>rfl
 refine rb (fun i:Nat=>(i:Int)) l.length (bc (by omega)) _ () false (fun i hi hp=> ?_) (fun i hi hp=> ?_) ?_
 ·have hb:qub N l i=false:=by simpa using hp
  exact(hst i hi).trans (by rw[hb];rfl)
 ·have hb:qub N l i=true:=by simpa using hp
  exact(hst i hi).trans (by rw[hb];rfl)
 ·simp(disch:=omega)only[mj,rs]
theorem jod{b:Bool}:(lk (bif b then(.inl ():Unit⊕Bool)else .inr false) (fun _=>some true) fun r=>some r)=some b:=by cases b<;>rfl
theorem w9(n:bp)(l:List Int)(h:l.length≤1000000):kj n l=some (qor n.1 l):=by
 unfold kj qor;rw[qwa n.1 n.2.1 n.2.2.1 n.2.2.2.1 l h,ax,jod]
theorem qny(N:Int)(l:List Int)(h:l.length≤1000000):qh N l=some (qor N l):=by
 unfold qh qor;rw[qwj N [] 0 0 l h,ax,jod]
structure Small (n : bp) : Prop where
 trans : n.2.1.length ≤ 100
 ins : ∀ t ∈ n.2.1, t.2.1.length ≤ 60
 outs : ∀ t ∈ n.2.1, t.2.2.1.length ≤ 60
def q1y(N:Int)(t:ae):Bool:= !eqS t.1 ⟨#[]⟩&& !q6h t.1|| !qor N t.2.1|| !qor N t.2.2.1
def ck(n:bp):Bool:=decide (1≤n.1)&&decide (n.1≤40)&&decide (n.2.1.length≤60)&& !n.2.1.any (q1y n.1)&&(decide (0≤n.2.2.1)&&decide (n.2.2.1<n.1))&&(decide (0≤n.2.2.2.1)&&decide (n.2.2.2.1<n.1))
theorem qwt(N x:Int):qor N [x]=(decide (0≤x)&&decide (x<N)):=by
 unfold qor qub;rw[Bool.eq_iff_iff];simp
theorem qfr{n:bp}(h:Small n):g9 n=some (ck n):=by
 have hL:qsf n.2.1 (n.2.1.length:Int) n.1 n.2.1 n.2.2.1 n.2.2.2.1 0=some (bif n.2.1.any (q1y n.1)then .inr false else .inl ()):=by
  have hl:=h.trans;refine na n.2.1 ae.z (q1y n.1) false (by omega) (fun i hi=> ?_) ?_
  ·have h1:=h.ins _ (au ae.z hi);have h2:=h.outs _ (au ae.z hi);unfold q1y;simp(disch:=omega)only[jjw,zt,jlk,rs];rw[w9 _ _ (by omega),w9 _ _ (by omega),ah];simp only[ax];cases eqS (n.2.1.getD i ae.z).1 ⟨#[]⟩<;>cases q6h (n.2.1.getD i ae.z).1<;>cases qor n.1 (n.2.1.getD i ae.z).2.1<;>cases qor n.1 (n.2.1.getD i ae.z).2.2.1<;>rfl
  ·simp(disch:=omega)only[zt,rs]
 unfold g9 ck;rw[hL,w9 _ _ (by simp),w9 _ _ (by simp),qwt,qwt];have e1:decide (1≤n.1)= !decide (n.1<1):=by rw[Bool.eq_iff_iff];simp
 have e2:decide (n.1≤40)= !decide (40<n.1):=by rw[Bool.eq_iff_iff];simp
 have e3:decide (n.2.1.length≤60)= !decide ((60:Int)<(n.2.1.length:Int)):=by rw[Bool.eq_iff_iff];simp;omega
 rw[e1,e2,e3];cases decide (n.1<1)<;>cases decide (40<n.1)<;>cases decide ((60:Int)<(n.2.1.length:Int))<;>cases n.2.1.any (q1y n.1)<;>cases(decide (0≤n.2.2.1)&&decide (n.2.2.1<n.1))<;>cases(decide (0≤n.2.2.2.1)&&decide (n.2.2.2.1<n.1))<;>rfl
theorem q1n{n:bp}(h:Small n):qdo n=some (ck n):=by
 have hL:qso n.1 n.2.1 n.2.2.1 n.2.2.2.1 0=some (bif n.2.1.any (q1y n.1)then .inr false else .inl ()):=by
  have hl:=h.trans;refine na n.2.1 ae.z (q1y n.1) false (by omega) (fun i hi=> ?_) ?_
  ·have h1:=h.ins _ (au ae.z hi);have h2:=h.outs _ (au ae.z hi);unfold q1y;simp(disch:=omega)only[jjw,z6,jc7,rs];rw[qny _ _ (by omega),qny _ _ (by omega),ah];simp only[ax];cases eqS (n.2.1.getD i ae.z).1 ⟨#[]⟩<;>cases q6h (n.2.1.getD i ae.z).1<;>cases qor n.1 (n.2.1.getD i ae.z).2.1<;>cases qor n.1 (n.2.1.getD i ae.z).2.2.1<;>rfl
  ·simp(disch:=omega)only[z6,rs]
 unfold qdo ck;rw[hL];have e1:decide (1≤n.1)= !decide (n.1<1):=by rw[Bool.eq_iff_iff];simp
 have e2:decide (n.1≤40)= !decide (40<n.1):=by rw[Bool.eq_iff_iff];simp
 have e3:decide (n.2.1.length≤60)= !decide ((60:Int)<(n.2.1.length:Int)):=by rw[Bool.eq_iff_iff];simp;omega
 have e4:∀x:Int,decide (0≤x)= !decide (x<0):=fun x=>by rw[Bool.eq_iff_iff];simp
 have e5:∀x:Int,decide (x<n.1)= !decide (n.1≤x):=fun x=>by rw[Bool.eq_iff_iff];simp
 rw[e1,e2,e3,e4 n.2.2.1,e4 n.2.2.2.1,e5 n.2.2.1,e5 n.2.2.2.1];cases decide (n.1<1)<;>cases decide (40<n.1)<;>cases decide ((60:Int)<(n.2.1.length:Int))<;>cases n.2.1.any (q1y n.1)<;>cases decide (n.2.2.1<0)<;>cases decide (n.1≤n.2.2.1)<;>cases decide (n.2.2.2.1<0)<;>cases decide (n.1≤n.2.2.2.1)<;>rfl
theorem qdq{N:Int}{l:List Int}:qor N l=true↔(∀x∈l,0≤x∧x<N)∧l.Pairwise (·<·):=by
 unfold qor;rw[List.all_eq_true];constructor
 ·intro h;have hq:∀i,i<l.length→(0≤l.getD i 0∧l.getD i 0<N)∧(0<i→l.getD (i-1) 0<l.getD i 0):=fun i hi=>by
   have:=h i (List.mem_range.2 hi);unfold qub at this;simp only[Bool.not_eq_true',Bool.or_eq_false_iff,Bool.and_eq_false_iff,decide_eq_false_iff_not]at this;refine⟨by omega,fun h0=> ?_⟩;rcases this.2 with h1|h1
   ·exact absurd h0 h1
   ·omega
  refine⟨fun x hx=> ?_,List.pairwise_iff_getElem.2 fun i j hi hj hij=> ?_⟩
  ·obtain⟨i,hi,rfl⟩:=t8 0 hx;exact(hq i hi).1
  ·have key:∀d,∀j,j=i+1+d→j<l.length→l.getD i 0<l.getD j 0:=by
    intro d
    induction d with
    |zero=>intro j hj hl;subst hj;exact(hq (i+1) hl).2 (by omega)
    |succ d ih=>
     intro j hj hl;have h1:=ih (i+1+d) rfl (by omega);have h2:=(hq j hl).2 (by omega);rw[show j-1=i+1+d by omega]at h2;omega
   have:=key (j-i-1) j (by omega) hj;rwa[zf l i 0 hi,zf l j 0 hj]at this
 ·rintro⟨h1,h2⟩ i hi;have hi:=List.mem_range.1 hi;have hb:=h1 _ (au 0 hi);unfold qub;simp only[Bool.not_eq_true',Bool.or_eq_false_iff,Bool.and_eq_false_iff,decide_eq_false_iff_not];refine⟨by omega,?_⟩;by_cases h0:0<i
  ·right;have:=List.pairwise_iff_getElem.1 h2 (i-1) i (by omega) hi (by omega);rw[zf l i 0 hi,zf l (i-1) 0 (by omega)];omega
  ·exact .inl h0
theorem vp(l:List Int)(h:l.length≤1000000):b8 l=some l:=by
 unfold b8 kl;simp(disch:=omega)only[List.nil_append,rs]
theorem jpm(n:bp):∃b,qhm n=some b∧(b=false→Small n∧(n.2.1.length≤12∨60≤n.2.1.length)∧(n.1≤12∨40<n.1)):=by
 have h1:∀t:ae,qcw t=some (decide ((60:Int)<(t.2.1.length:Int))||decide ((60:Int)<(t.2.2.1.length:Int))||decide ((100:Int)<(t.1.size:Int))):=fun t=>by
  unfold qcw;cases decide ((60:Int)<(t.2.1.length:Int))<;>cases decide ((60:Int)<(t.2.2.1.length:Int))<;>rfl
 have hC:n.2.1.length≤80→ba n.2.1=some (n.2.1.any fun t=>decide ((60:Int)<(t.2.1.length:Int))||decide ((60:Int)<(t.2.2.1.length:Int))||decide ((100:Int)<(t.1.size:Int))):=fun hl=>by
  have hL:h8 n.2.1 (n.2.1.length:Int) 0=some (q4y (fun i=>(i:Int)) (vx (fun t:ae=>decide ((60:Int)<(t.2.1.length:Int))||decide ((60:Int)<(t.2.2.1.length:Int))||decide ((100:Int)<(t.1.size:Int))) n.2.1)):=by
   refine sq n.2.1 ae.z (fun t:ae=>decide ((60:Int)<(t.2.1.length:Int))||decide ((60:Int)<(t.2.2.1.length:Int))||decide ((100:Int)<(t.1.size:Int))) (fun i=>(i:Int)) (by omega) (fun i hi=> ?_) ?_
   ·simp(disch:=omega)only[cj,h1,rs];rw[ah];exact qqx
   ·simp(disch:=omega)only[cj,rs]
  unfold ba dx;rw[hL,ax,qe8,ax,qhk]
 have hF:n.2.1.length≤80→(n.2.1.any fun t=>decide ((60:Int)<(t.2.1.length:Int))||decide ((60:Int)<(t.2.2.1.length:Int))||decide ((100:Int)<(t.1.size:Int)))=false→Small n:=fun hl ha=>by
  have key:∀t∈n.2.1,t.2.1.length≤60∧t.2.2.1.length≤60:=fun t ht=>by
   have:=List.any_eq_false.1 ha t ht;simp only[Bool.or_eq_true,decide_eq_true_eq,not_or]at this;omega
  exact⟨by omega,fun t ht=>(key t ht).1,fun t ht=>(key t ht).2⟩
 unfold qhm;by_cases c1:(80:Int)<(n.2.1.length:Int)
 ·refine⟨true,?_,fun h=>by cases h⟩;by_cases c2:(12:Int)<n.1<;>by_cases c3:n.1≤40<;>(first|omega|simp(disch:=omega)only[rs])
 ·have hl:n.2.1.length≤80:=by omega
  by_cases c3:(12:Int)<n.1
  ·by_cases c4:n.1≤40
   ·exact⟨true,by simp(disch:=omega)only[rs],fun h=>by cases h⟩
   ·by_cases c2:(12:Int)<(n.2.1.length:Int)
    ·by_cases c5:(n.2.1.length:Int)<60
     ·exact⟨true,by simp(disch:=omega)only[rs],fun h=>by cases h⟩
     ·exact⟨_,by simp(disch:=omega)only[hC hl,rs],fun h=>⟨hF hl h,by omega,by omega⟩⟩
    ·exact⟨_,by simp(disch:=omega)only[hC hl,rs],fun h=>⟨hF hl h,by omega,by omega⟩⟩
  ·by_cases c2:(12:Int)<(n.2.1.length:Int)
   ·by_cases c5:(n.2.1.length:Int)<60
    ·exact⟨true,by simp(disch:=omega)only[rs],fun h=>by cases h⟩
    ·exact⟨_,by simp(disch:=omega)only[hC hl,rs],fun h=>⟨hF hl h,by omega,by omega⟩⟩
   ·exact⟨_,by simp(disch:=omega)only[hC hl,rs],fun h=>⟨hF hl h,by omega,by omega⟩⟩
end Go.Proofs.YtclbndfjhjladaaGreat
