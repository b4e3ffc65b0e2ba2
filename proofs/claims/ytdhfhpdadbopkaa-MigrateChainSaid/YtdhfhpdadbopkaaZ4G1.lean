/-
  Freechoice: names, lists of places, nets: the program and the reference reckon alike.
-/
import Derived.Test.YtdhfhpdadbopkaaZ4Md
import Derived.Test.YtdhfhpdadbopkaaZ4KE
import Derived.KernelRfl
set_option linter.all false
namespace Go.Proofs.Ytdhfhpdadbopkaa
open Go.K Go.M
theorem qzt:qgc=some true:=by kernel_rfl
def eqS(a b:ByteArray):Bool:=ByteArray.toList a==ByteArray.toList b
theorem qhu(a b:ByteArray):(ByteArray.toList a==ByteArray.toList b)=eqS a b:=rfl
def qpg(c:Int):Bool:=decide (65≤c)&&decide (c≤90)||decide (97≤c)&&decide (c≤122)
def qbr(c:Int):Bool:=qpg c||decide (48≤c)&&decide (c≤57)||decide (c=95)||decide (c=45)||decide (c=46)
abbrev byt(s:ByteArray)(i:Nat):Int:=((ByteArray.data s).getD i 0).toNat
theorem qus(c:Int):x5 c=some (qpg c):=by
 unfold x5 qpg;cases decide ((65:Int)≤c)<;>cases decide (c≤(90:Int))<;>cases decide ((97:Int)≤c)<;>cases decide (c≤(122:Int))<;>rfl
theorem qeg(c:Int):zn c=some (qpg c):=by
 unfold zn qpg;cases decide ((65:Int)≤c)<;>cases decide (c≤(90:Int))<;>cases decide ((97:Int)≤c)<;>cases decide (c≤(122:Int))<;>rfl
theorem q2c(c:Int):qhw c=some (qbr c):=by
 unfold qhw qbr;rw[qus,au];cases qpg c<;>cases decide ((48:Int)≤c)<;>cases decide (c≤(57:Int))<;>cases decide (c=(95:Int))<;>cases decide (c=(45:Int))<;>cases decide (c=(46:Int))<;>rfl
def qsb(s:ByteArray):Bool:=decide (1≤s.size)&&decide (s.size≤40)&&qpg (byt s 0)&&(List.range s.size).all fun i=>qbr (byt s i)
theorem q2x(s:ByteArray):qbq s=some (qsb s):=by
 unfold qbq qsb;by_cases h1:(s.size:Int)<1
 ·have:¬1≤s.size:=by omega
  simp(disch:=omega)only[rs];rw[decide_eq_false this];rfl
 ·have h1' :1≤s.size:=by omega
  rw[decide_eq_true h1'];by_cases h2:40<(s.size:Int)
  ·have:¬s.size≤40:=by omega
   simp(disch:=omega)only[rs];rw[decide_eq_false this];rfl
  ·have h2' :s.size≤40:=by omega
   rw[decide_eq_true h2'];have hL:qi4 s (s.size:Int) 0=some (bif (List.range s.size).all (fun i=>qbr (byt s i))then .inl ()else .inr false):=by
    refine qv (fun i:Nat=>(i:Int)) s.size (gg (by omega)) _ () false ?_ ?_ ?_
    ·intro i hi hp;simp(disch:=omega)only[o3,q2c,hp,Bool.not_true,rs];rw[am]
    ·intro i hi hp;simp(disch:=omega)only[o3,q2c,hp,Bool.not_false,rs]
    ·simp(disch:=omega)only[o3,rs]
   simp(disch:=omega)only[qus,hL,rs];cases qpg (byt s 0)with
   |false=>rfl
   |true=>cases(List.range s.size).all (fun i=>qbr (byt s i))<;>rfl
theorem qqq(n:Nat)(p:Nat→Bool):(List.range (n+1)).all p=(p 0&&(List.range n).all fun i=>p (i+1)):=by
 rw[List.range_succ_eq_map,List.all_cons,List.all_map];rfl
theorem qw4(s:ByteArray):qed s=some (qsb s):=by
 unfold qed qsb;by_cases h1:(s.size:Int)<1
 ·have:¬1≤s.size:=by omega
  simp(disch:=omega)only[rs];rw[decide_eq_false this];rfl
 ·have h1' :1≤s.size:=by omega
  rw[decide_eq_true h1'];by_cases h2:40<(s.size:Int)
  ·have:¬s.size≤40:=by omega
   simp(disch:=omega)only[rs];rw[decide_eq_false this];rfl
  ·have h2' :s.size≤40:=by omega
   rw[decide_eq_true h2'];have hL:qha s 1=some (bif (List.range (s.size-1)).all (fun i=>qbr (byt s (i+1)))then .inl ()else .inr false):=by
    refine qv (fun i:Nat=>((i+1:Nat):Int)) (s.size-1) (gg (by omega)) _ () false ?_ ?_ ?_
    ·intro i hi hp;unfold qbr at hp;simp(disch:=omega)only[rz,qeg,rs];rw[am];revert hp;cases qpg (byt s (i+1))<;>cases decide ((48:Int)≤byt s (i+1))<;>cases decide (byt s (i+1)≤(57:Int))<;>cases decide (byt s (i+1)=(95:Int))<;>cases decide (byt s (i+1)=(45:Int))<;>cases decide (byt s (i+1)=(46:Int))<;>intro hp<;>first|rfl|cases hp
    ·intro i hi hp;unfold qbr at hp;simp(disch:=omega)only[rz,qeg,rs];revert hp;cases qpg (byt s (i+1))<;>cases decide ((48:Int)≤byt s (i+1))<;>cases decide (byt s (i+1)≤(57:Int))<;>cases decide (byt s (i+1)=(95:Int))<;>cases decide (byt s (i+1)=(45:Int))<;>cases decide (byt s (i+1)=(46:Int))<;>intro hp<;>first|rfl|cases hp
    ·have e:s.size-1+1=s.size:=by omega
     rw[e];simp(disch:=omega)only[rz,rs]
   simp(disch:=omega)only[qeg,hL,rs];have e:s.size=s.size-1+1:=by omega
   have e2:(List.range s.size).all (fun i=>qbr (byt s i))=(qbr (byt s 0)&&(List.range (s.size-1)).all fun i=>qbr (byt s (i+1))):=by
    conv=>lhs;rw[e]
    exact qqq _ _
   rw[e2];have e3:qpg (byt s 0)=true→qbr (byt s 0)=true:=fun h=>by unfold qbr;rw[h];rfl
   cases h:qpg (byt s 0)with
   |false=>rfl
   |true=>
    rw[e3 h];cases(List.range (s.size-1)).all (fun i=>qbr (byt s (i+1)))<;>rfl
def gn(l:List Int)(x:Int):Bool:=l.any fun y=>decide (x=y)
theorem qae{l:List Int}{x:Int}:gn l x=true↔x∈l:=by
 unfold gn;rw[List.any_eq_true];constructor
 ·rintro⟨y,hy,h⟩;rw[of_decide_eq_true h];exact hy
 ·intro h;exact⟨x,h,decide_eq_true rfl⟩
theorem qle{l:List Int}{x:Int}:gn l x=false↔x∉l:=by
 rw[←qae];cases gn l x<;>simp
theorem qob(l:List Int)(h:l.length≤1000000)(x:Int):fe l x=some (gn l x):=by
 have hL:u5 l x (l.length:Int) 0=some (qq2 (fun i=>(i:Int)) (ov (fun y=>decide (x=y)) l)):=by
  refine n9 l 0 (fun y=>decide (x=y)) (fun i=>(i:Int)) (by omega) (fun i hi=> ?_) ?_
  ·simp(disch:=omega)only[iq,rs];rw[am];cases decide (x=l.getD i 0)<;>rfl
  ·simp(disch:=omega)only[iq,rs]
 unfold fe pb;rw[hL,au,zi,au,zh];rfl
theorem zw(l:List Int)(h:l.length≤1000000)(x:Int):pp l x=some (gn l x):=by
 have hL:qo1 l x 0=some (bif l.any (fun y=>decide (y=x))then .inr true else .inl ()):=by
  refine wc l 0 (fun y=>decide (y=x)) true (by omega) (fun i hi=> ?_) ?_
  ·simp(disch:=omega)only[qee,rs];rw[am];cases decide (l.getD i 0=x)<;>rfl
  ·simp(disch:=omega)only[qee,rs]
 unfold pp gn;have e:(l.any fun y=>decide (x=y))=l.any fun y=>decide (y=x):=qzs fun y _=>decide_eq_decide.2 ⟨Eq.symm,Eq.symm⟩
 rw[hL,au,e];cases l.any (fun y=>decide (y=x))<;>rfl
def qkq(N:Int)(l:List Int)(i:Nat):Bool:=decide (l.getD i 0<0)||decide (N≤l.getD i 0)||decide (0<i)&&decide (l.getD i 0≤l.getD (i-1) 0)
def qiw(N:Int)(l:List Int):Bool:=(List.range l.length).all fun i=> !qkq N l i
theorem ql1(N:Int)(ts:List ae)(a b:Int)(l:List Int)(h:l.length≤1000000):qg6 l l (l.length:Int) N ts a b 0=some (bif (List.range l.length).all (fun i=> !qkq N l i)then .inl ()else .inr false):=by
 have hst:∀i:Nat,i<l.length→lh l l (l.length:Int) N ts a b (R:=LR Int Unit Bool) (i:Int) (fun a' =>some (.next a')) (fun e=>some (.done e)) (fun r=>some (.ret r))=some (bif qkq N l i then .ret false else .next ((i+1:Nat):Int)):=fun i hi=>by
  unfold qkq;by_cases h0:0<i
  ·have e:(i:Int)-1=((i-1:Nat):Int):=by omega
   have h0' :(0:Int)<(i:Int):=by omega
   rw[decide_eq_true h0];simp(disch:=omega)only[lh,e,rs];rw[am];cases decide (l.getD i 0<0)<;>cases decide (N≤l.getD i 0)<;>cases decide (l.getD i 0≤l.getD (i-1) 0)<;>rfl
  ·have h0' :¬(0:Int)<(i:Int):=by omega
   rw[decide_eq_false h0];simp(disch:=omega)only[lh,rs];rw[am];cases decide (l.getD i 0<0)<;>cases decide (N≤l.getD i 0)<;>rfl
 refine qv (fun i:Nat=>(i:Int)) l.length (gg (by omega)) _ () false (fun i hi hp=> ?_) (fun i hi hp=> ?_) ?_
 ·have hb:qkq N l i=false:=by simpa using hp
  exact(hst i hi).trans (by rw[hb];rfl)
 ·have hb:qkq N l i=true:=by simpa using hp
  exact(hst i hi).trans (by rw[hb];rfl)
 ·simp(disch:=omega)only[lh,rs]
theorem ql3(N:Int)(ts:List ae)(a b:Int)(l:List Int)(h:l.length≤1000000):qhf N l 0=some (bif (List.range l.length).all (fun i=> !qkq N l i)then .inl ()else .inr false):=by
 have hst:∀i:Nat,i<l.length→ny N l (R:=LR Int Unit Bool) (i:Int) (fun a' =>some (.next a')) (fun e=>some (.done e)) (fun r=>some (.ret r))=some (bif qkq N l i then .ret false else .next ((i+1:Nat):Int)):=fun i hi=>by
  unfold qkq;by_cases h0:0<i
  ·have e:(i:Int)-1=((i-1:Nat):Int):=by omega
   have h0' :(0:Int)<(i:Int):=by omega
   rw[decide_eq_true h0];simp(disch:=omega)only[ny,e,rs];rw[am];cases decide (l.getD i 0<0)<;>cases decide (N≤l.getD i 0)<;>cases decide (l.getD i 0≤l.getD (i-1) 0)<;>rfl
  ·have h0' :¬(0:Int)<(i:Int):=by omega
   rw[decide_eq_false h0];simp(disch:=omega)only[ny,rs];rw[am];cases decide (l.getD i 0<0)<;>cases decide (N≤l.getD i 0)<;>rfl
 refine qv (fun i:Nat=>(i:Int)) l.length (gg (by omega)) _ () false (fun i hi hp=> ?_) (fun i hi hp=> ?_) ?_
 ·have hb:qkq N l i=false:=by simpa using hp
  exact(hst i hi).trans (by rw[hb];rfl)
 ·have hb:qkq N l i=true:=by simpa using hp
  exact(hst i hi).trans (by rw[hb];rfl)
 ·simp(disch:=omega)only[ny,rs]
theorem q4n{b:Bool}:(lk (bif b then(.inl ():Unit⊕Bool)else .inr false) (fun _=>some true) fun r=>some r)=some b:=by cases b<;>rfl
theorem rx(n:a8)(l:List Int)(h:l.length≤1000000):ji n l=some (qiw n.1 l):=by
 unfold ji qiw;rw[ql1 n.1 n.2.1 n.2.2.1 n.2.2.2.1 l h,au,q4n]
theorem qfh(N:Int)(l:List Int)(h:l.length≤1000000):pq N l=some (qiw N l):=by
 unfold pq qiw;rw[ql3 N [] 0 0 l h,au,q4n]
structure Small (n : a8) : Prop where
 trans : n.2.1.length ≤ 100
 ins : ∀ t ∈ n.2.1, t.2.1.length ≤ 60
 outs : ∀ t ∈ n.2.1, t.2.2.1.length ≤ 60
def qqt(N:Int)(t:ae):Bool:= !eqS t.1 ⟨#[]⟩&& !qsb t.1|| !qiw N t.2.1|| !qiw N t.2.2.1
def cj(n:a8):Bool:=decide (1≤n.1)&&decide (n.1≤40)&&decide (n.2.1.length≤60)&& !n.2.1.any (qqt n.1)&&(decide (0≤n.2.2.1)&&decide (n.2.2.1<n.1))&&(decide (0≤n.2.2.2.1)&&decide (n.2.2.2.1<n.1))
theorem qy8(N x:Int):qiw N [x]=(decide (0≤x)&&decide (x<N)):=by
 unfold qiw qkq;rw[Bool.eq_iff_iff];simp
theorem qkl{n:a8}(h:Small n):o5 n=some (cj n):=by
 have hL:qja n.2.1 (n.2.1.length:Int) n.1 n.2.1 n.2.2.1 n.2.2.2.1 0=some (bif n.2.1.any (qqt n.1)then .inr false else .inl ()):=by
  have hl:=h.trans;refine wc n.2.1 ae.z (qqt n.1) false (by omega) (fun i hi=> ?_) ?_
  ·have h1:=h.ins _ (a7 ae.z hi);have h2:=h.outs _ (a7 ae.z hi);unfold qqt;simp(disch:=omega)only[qhu,ui,q2x,rs];rw[rx _ _ (by omega),rx _ _ (by omega),am];simp only[au];cases eqS (n.2.1.getD i ae.z).1 ⟨#[]⟩<;>cases qsb (n.2.1.getD i ae.z).1<;>cases qiw n.1 (n.2.1.getD i ae.z).2.1<;>cases qiw n.1 (n.2.1.getD i ae.z).2.2.1<;>rfl
  ·simp(disch:=omega)only[ui,rs]
 unfold o5 cj;rw[hL,rx _ _ (by simp),rx _ _ (by simp),qy8,qy8];have e1:decide (1≤n.1)= !decide (n.1<1):=by rw[Bool.eq_iff_iff];simp
 have e2:decide (n.1≤40)= !decide (40<n.1):=by rw[Bool.eq_iff_iff];simp
 have e3:decide (n.2.1.length≤60)= !decide ((60:Int)<(n.2.1.length:Int)):=by rw[Bool.eq_iff_iff];simp;omega
 rw[e1,e2,e3];cases decide (n.1<1)<;>cases decide (40<n.1)<;>cases decide ((60:Int)<(n.2.1.length:Int))<;>cases n.2.1.any (qqt n.1)<;>cases(decide (0≤n.2.2.1)&&decide (n.2.2.1<n.1))<;>cases(decide (0≤n.2.2.2.1)&&decide (n.2.2.2.1<n.1))<;>rfl
theorem qy4{n:a8}(h:Small n):qhe n=some (cj n):=by
 have hL:qjg n.1 n.2.1 n.2.2.1 n.2.2.2.1 0=some (bif n.2.1.any (qqt n.1)then .inr false else .inl ()):=by
  have hl:=h.trans;refine wc n.2.1 ae.z (qqt n.1) false (by omega) (fun i hi=> ?_) ?_
  ·have h1:=h.ins _ (a7 ae.z hi);have h2:=h.outs _ (a7 ae.z hi);unfold qqt;simp(disch:=omega)only[qhu,qaw,qw4,rs];rw[qfh _ _ (by omega),qfh _ _ (by omega),am];simp only[au];cases eqS (n.2.1.getD i ae.z).1 ⟨#[]⟩<;>cases qsb (n.2.1.getD i ae.z).1<;>cases qiw n.1 (n.2.1.getD i ae.z).2.1<;>cases qiw n.1 (n.2.1.getD i ae.z).2.2.1<;>rfl
  ·simp(disch:=omega)only[qaw,rs]
 unfold qhe cj;rw[hL];have e1:decide (1≤n.1)= !decide (n.1<1):=by rw[Bool.eq_iff_iff];simp
 have e2:decide (n.1≤40)= !decide (40<n.1):=by rw[Bool.eq_iff_iff];simp
 have e3:decide (n.2.1.length≤60)= !decide ((60:Int)<(n.2.1.length:Int)):=by rw[Bool.eq_iff_iff];simp;omega
 have e4:∀x:Int,decide (0≤x)= !decide (x<0):=fun x=>by rw[Bool.eq_iff_iff];simp
 have e5:∀x:Int,decide (x<n.1)= !decide (n.1≤x):=fun x=>by rw[Bool.eq_iff_iff];simp
 rw[e1,e2,e3,e4 n.2.2.1,e4 n.2.2.2.1,e5 n.2.2.1,e5 n.2.2.2.1];cases decide (n.1<1)<;>cases decide (40<n.1)<;>cases decide ((60:Int)<(n.2.1.length:Int))<;>cases n.2.1.any (qqt n.1)<;>cases decide (n.2.2.1<0)<;>cases decide (n.1≤n.2.2.1)<;>cases decide (n.2.2.2.1<0)<;>cases decide (n.1≤n.2.2.2.1)<;>rfl
theorem qhh{N:Int}{l:List Int}:qiw N l=true↔(∀x∈l,0≤x∧x<N)∧l.Pairwise (·<·):=by
 unfold qiw;rw[List.all_eq_true];constructor
 ·intro h;have hq:∀i,i<l.length→(0≤l.getD i 0∧l.getD i 0<N)∧(0<i→l.getD (i-1) 0<l.getD i 0):=fun i hi=>by
   have:=h i (List.mem_range.2 hi);unfold qkq at this;simp only[Bool.not_eq_true',Bool.or_eq_false_iff,Bool.and_eq_false_iff,decide_eq_false_iff_not]at this;refine⟨by omega,fun h0=> ?_⟩;rcases this.2 with h1|h1
   ·exact absurd h0 h1
   ·omega
  refine⟨fun x hx=> ?_,List.pairwise_iff_getElem.2 fun i j hi hj hij=> ?_⟩
  ·obtain⟨i,hi,rfl⟩:=qw 0 hx;exact(hq i hi).1
  ·have key:∀d,∀j,j=i+1+d→j<l.length→l.getD i 0<l.getD j 0:=by
    intro d
    induction d with
    |zero=>intro j hj hl;subst hj;exact(hq (i+1) hl).2 (by omega)
    |succ d ih=>
     intro j hj hl;have h1:=ih (i+1+d) rfl (by omega);have h2:=(hq j hl).2 (by omega);rw[show j-1=i+1+d by omega]at h2;omega
   have:=key (j-i-1) j (by omega) hj;rwa[mn l i 0 hi,mn l j 0 hj]at this
 ·rintro⟨h1,h2⟩ i hi;have hi:=List.mem_range.1 hi;have hb:=h1 _ (a7 0 hi);unfold qkq;simp only[Bool.not_eq_true',Bool.or_eq_false_iff,Bool.and_eq_false_iff,decide_eq_false_iff_not];refine⟨by omega,?_⟩;by_cases h0:0<i
  ·right;have:=List.pairwise_iff_getElem.1 h2 (i-1) i (by omega) hi (by omega);rw[mn l i 0 hi,mn l (i-1) 0 (by omega)];omega
  ·exact .inl h0
theorem qxm(l:List Int)(h:l.length≤1000000):bq l=some l:=by
 unfold bq jj;simp(disch:=omega)only[List.nil_append,rs]
theorem q0y(a b:List Int)(ha:a.length≤1000000):xj a b=some (decide (a=b)):=by
 unfold xj;by_cases hl:a.length=b.length
 ·rw[qhp (by simp[hl])];have hloop:qfe a b 0=some (bif (List.range a.length).all (fun i=>decide (a.getD i 0=b.getD i 0))then .inl ()else .inr false):=by
   refine qv (fun i:Nat=>(i:Int)) a.length (gg (by omega)) _ () false ?_ ?_ ?_
   ·intro i hi hp;have hp' :a.getD i 0=b.getD i 0:=of_decide_eq_true hp;simp(disch:=omega)only[mt,rs];rw[am]
   ·intro i hi hp;have hp' :a.getD i 0≠b.getD i 0:=of_decide_eq_false hp;simp(disch:=omega)only[mt,rs]
   ·simp(disch:=omega)only[mt,rs]
  rw[hloop,au];have hall:(List.range a.length).all (fun i=>decide (a.getD i 0=b.getD i 0))=decide (a=b):=by
   rw[Bool.eq_iff_iff,List.all_eq_true,decide_eq_true_iff];constructor
   ·intro h;refine List.ext_getElem hl fun i h1 h2=> ?_
    have:=of_decide_eq_true (h i (List.mem_range.2 h1));rw[mn a i 0 h1,mn b i 0 h2]at this;exact this
   ·rintro rfl i _;simp
  rw[hall];cases decide (a=b)<;>rfl
 ·have:¬a=b:=fun h=>hl (by rw[h])
  rw[qhq (by simp;omega),decide_eq_false this]
end Go.Proofs.Ytdhfhpdadbopkaa
