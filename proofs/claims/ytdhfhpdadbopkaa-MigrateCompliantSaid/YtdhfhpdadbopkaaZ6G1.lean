/-
  Freechoice: names, lists of places, nets: the program and the reference reckon alike.
-/
import Derived.Test.YtdhfhpdadbopkaaZ6Md
import Derived.Test.YtdhfhpdadbopkaaZ6KE
import Derived.KernelRfl
set_option linter.all false
namespace Go.Proofs.Ytdhfhpdadbopkaa
open Go.K Go.M
theorem q41:qhy=some true:=by kernel_rfl
def eqS(a b:ByteArray):Bool:=ByteArray.toList a==ByteArray.toList b
theorem sw(a b:ByteArray):(ByteArray.toList a==ByteArray.toList b)=eqS a b:=rfl
def qtb(c:Int):Bool:=decide (65≤c)&&decide (c≤90)||decide (97≤c)&&decide (c≤122)
def qct(c:Int):Bool:=qtb c||decide (48≤c)&&decide (c≤57)||decide (c=95)||decide (c=45)||decide (c=46)
abbrev byt(s:ByteArray)(i:Nat):Int:=((ByteArray.data s).getD i 0).toNat
theorem qzw(c:Int):yx c=some (qtb c):=by
 unfold yx qtb;cases decide ((65:Int)≤c)<;>cases decide (c≤(90:Int))<;>cases decide ((97:Int)≤c)<;>cases decide (c≤(122:Int))<;>rfl
theorem qf0(c:Int):vg c=some (qtb c):=by
 unfold vg qtb;cases decide ((65:Int)≤c)<;>cases decide (c≤(90:Int))<;>cases decide ((97:Int)≤c)<;>cases decide (c≤(122:Int))<;>rfl
theorem q7m(c:Int):qjv c=some (qct c):=by
 unfold qjv qct;rw[qzw,aq];cases qtb c<;>cases decide ((48:Int)≤c)<;>cases decide (c≤(57:Int))<;>cases decide (c=(95:Int))<;>cases decide (c=(45:Int))<;>cases decide (c=(46:Int))<;>rfl
def qv9(s:ByteArray):Bool:=decide (1≤s.size)&&decide (s.size≤40)&&qtb (byt s 0)&&(List.range s.size).all fun i=>qct (byt s i)
theorem q76(s:ByteArray):qcs s=some (qv9 s):=by
 unfold qcs qv9;by_cases h1:(s.size:Int)<1
 ·have:¬1≤s.size:=by omega
  simp(disch:=omega)only[rs];rw[decide_eq_false this];rfl
 ·have h1' :1≤s.size:=by omega
  rw[decide_eq_true h1'];by_cases h2:40<(s.size:Int)
  ·have:¬s.size≤40:=by omega
   simp(disch:=omega)only[rs];rw[decide_eq_false this];rfl
  ·have h2' :s.size≤40:=by omega
   rw[decide_eq_true h2'];have hL:qk4 s (s.size:Int) 0=some (bif (List.range s.size).all (fun i=>qct (byt s i))then .inl ()else .inr false):=by
    refine yp (fun i:Nat=>(i:Int)) s.size (i6 (by omega)) _ () false ?_ ?_ ?_
    ·intro i hi hp;simp(disch:=omega)only[ph,q7m,hp,Bool.not_true,rs];rw[am]
    ·intro i hi hp;simp(disch:=omega)only[ph,q7m,hp,Bool.not_false,rs]
    ·simp(disch:=omega)only[ph,rs]
   simp(disch:=omega)only[qzw,hL,rs];cases qtb (byt s 0)with
   |false=>rfl
   |true=>cases(List.range s.size).all (fun i=>qct (byt s i))<;>rfl
theorem quv(n:Nat)(p:Nat→Bool):(List.range (n+1)).all p=(p 0&&(List.range n).all fun i=>p (i+1)):=by
 rw[List.range_succ_eq_map,List.all_cons,List.all_map];rfl
theorem q2h(s:ByteArray):qax s=some (qv9 s):=by
 unfold qax qv9;by_cases h1:(s.size:Int)<1
 ·have:¬1≤s.size:=by omega
  simp(disch:=omega)only[rs];rw[decide_eq_false this];rfl
 ·have h1' :1≤s.size:=by omega
  rw[decide_eq_true h1'];by_cases h2:40<(s.size:Int)
  ·have:¬s.size≤40:=by omega
   simp(disch:=omega)only[rs];rw[decide_eq_false this];rfl
  ·have h2' :s.size≤40:=by omega
   rw[decide_eq_true h2'];have hL:qiy s 1=some (bif (List.range (s.size-1)).all (fun i=>qct (byt s (i+1)))then .inl ()else .inr false):=by
    refine yp (fun i:Nat=>((i+1:Nat):Int)) (s.size-1) (i6 (by omega)) _ () false ?_ ?_ ?_
    ·intro i hi hp;unfold qct at hp;simp(disch:=omega)only[og,qf0,rs];rw[am];revert hp;cases qtb (byt s (i+1))<;>cases decide ((48:Int)≤byt s (i+1))<;>cases decide (byt s (i+1)≤(57:Int))<;>cases decide (byt s (i+1)=(95:Int))<;>cases decide (byt s (i+1)=(45:Int))<;>cases decide (byt s (i+1)=(46:Int))<;>intro hp<;>first|rfl|cases hp
    ·intro i hi hp;unfold qct at hp;simp(disch:=omega)only[og,qf0,rs];revert hp;cases qtb (byt s (i+1))<;>cases decide ((48:Int)≤byt s (i+1))<;>cases decide (byt s (i+1)≤(57:Int))<;>cases decide (byt s (i+1)=(95:Int))<;>cases decide (byt s (i+1)=(45:Int))<;>cases decide (byt s (i+1)=(46:Int))<;>intro hp<;>first|rfl|cases hp
    ·have e:s.size-1+1=s.size:=by omega
     rw[e];simp(disch:=omega)only[og,rs]
   simp(disch:=omega)only[qf0,hL,rs];have e:s.size=s.size-1+1:=by omega
   have e2:(List.range s.size).all (fun i=>qct (byt s i))=(qct (byt s 0)&&(List.range (s.size-1)).all fun i=>qct (byt s (i+1))):=by
    conv=>lhs;rw[e]
    exact quv _ _
   rw[e2];have e3:qtb (byt s 0)=true→qct (byt s 0)=true:=fun h=>by unfold qct;rw[h];rfl
   cases h:qtb (byt s 0)with
   |false=>rfl
   |true=>
    rw[e3 h];cases(List.range (s.size-1)).all (fun i=>qct (byt s (i+1)))<;>rfl
def h8(l:List Int)(x:Int):Bool:=l.any fun y=>decide (x=y)
theorem qbe{l:List Int}{x:Int}:h8 l x=true↔x∈l:=by
 unfold h8;rw[List.any_eq_true];constructor
 ·rintro⟨y,hy,h⟩;rw[of_decide_eq_true h];exact hy
 ·intro h;exact⟨x,h,decide_eq_true rfl⟩
theorem qn1{l:List Int}{x:Int}:h8 l x=false↔x∉l:=by
 rw[←qbe];cases h8 l x<;>simp
theorem qrv(l:List Int)(h:l.length≤1000000)(x:Int):ff l x=some (h8 l x):=by
 have hL:wc l x (l.length:Int) 0=some (qxz (fun i=>(i:Int)) (ro (fun y=>decide (x=y)) l)):=by
  refine qb l 0 (fun y=>decide (x=y)) (fun i=>(i:Int)) (by omega) (fun i hi=> ?_) ?_
  ·simp(disch:=omega)only[jf,rs];rw[am];cases decide (x=l.getD i 0)<;>rfl
  ·simp(disch:=omega)only[jf,rs]
 unfold ff pu;rw[hL,aq,qfm,aq,qjt];rfl
theorem qa5(l:List Int)(h:l.length≤1000000)(x:Int):ot l x=some (h8 l x):=by
 have hL:qsm l x 0=some (bif l.any (fun y=>decide (y=x))then .inr true else .inl ()):=by
  refine pc l 0 (fun y=>decide (y=x)) true (by omega) (fun i hi=> ?_) ?_
  ·simp(disch:=omega)only[qay,rs];rw[am];cases decide (l.getD i 0=x)<;>rfl
  ·simp(disch:=omega)only[qay,rs]
 unfold ot h8;have e:(l.any fun y=>decide (x=y))=l.any fun y=>decide (y=x):=q40 fun y _=>decide_eq_decide.2 ⟨Eq.symm,Eq.symm⟩
 rw[hL,aq,e];cases l.any (fun y=>decide (y=x))<;>rfl
def qne(N:Int)(l:List Int)(i:Nat):Bool:=decide (l.getD i 0<0)||decide (N≤l.getD i 0)||decide (0<i)&&decide (l.getD i 0≤l.getD (i-1) 0)
def qkv(N:Int)(l:List Int):Bool:=(List.range l.length).all fun i=> !qne N l i
theorem qop(N:Int)(ts:List af)(a b:Int)(l:List Int)(h:l.length≤1000000):qiu l l (l.length:Int) N ts a b 0=some (bif (List.range l.length).all (fun i=> !qne N l i)then .inl ()else .inr false):=by
 have hst:∀i:Nat,i<l.length→l0 l l (l.length:Int) N ts a b (R:=LR Int Unit Bool) (i:Int) (fun a' =>some (.next a')) (fun e=>some (.done e)) (fun r=>some (.ret r))=some (bif qne N l i then .ret false else .next ((i+1:Nat):Int)):=fun i hi=>by
  unfold qne;by_cases h0:0<i
  ·have e:(i:Int)-1=((i-1:Nat):Int):=by omega
   have h0' :(0:Int)<(i:Int):=by omega
   rw[decide_eq_true h0];simp(disch:=omega)only[l0,e,rs];rw[am];cases decide (l.getD i 0<0)<;>cases decide (N≤l.getD i 0)<;>cases decide (l.getD i 0≤l.getD (i-1) 0)<;>rfl
  ·have h0' :¬(0:Int)<(i:Int):=by omega
   rw[decide_eq_false h0];simp(disch:=omega)only[l0,rs];rw[am];cases decide (l.getD i 0<0)<;>cases decide (N≤l.getD i 0)<;>rfl
 refine yp (fun i:Nat=>(i:Int)) l.length (i6 (by omega)) _ () false (fun i hi hp=> ?_) (fun i hi hp=> ?_) ?_
 ·have hb:qne N l i=false:=by simpa using hp
  exact(hst i hi).trans (by rw[hb];rfl)
 ·have hb:qne N l i=true:=by simpa using hp
  exact(hst i hi).trans (by rw[hb];rfl)
 ·simp(disch:=omega)only[l0,rs]
theorem qo4(N:Int)(ts:List af)(a b:Int)(l:List Int)(h:l.length≤1000000):qjc N l 0=some (bif (List.range l.length).all (fun i=> !qne N l i)then .inl ()else .inr false):=by
 have hst:∀i:Nat,i<l.length→l3 N l (R:=LR Int Unit Bool) (i:Int) (fun a' =>some (.next a')) (fun e=>some (.done e)) (fun r=>some (.ret r))=some (bif qne N l i then .ret false else .next ((i+1:Nat):Int)):=fun i hi=>by
  unfold qne;by_cases h0:0<i
  ·have e:(i:Int)-1=((i-1:Nat):Int):=by omega
   have h0' :(0:Int)<(i:Int):=by omega
   rw[decide_eq_true h0];simp(disch:=omega)only[l3,e,rs];rw[am];cases decide (l.getD i 0<0)<;>cases decide (N≤l.getD i 0)<;>cases decide (l.getD i 0≤l.getD (i-1) 0)<;>rfl
  ·have h0' :¬(0:Int)<(i:Int):=by omega
   rw[decide_eq_false h0];simp(disch:=omega)only[l3,rs];rw[am];cases decide (l.getD i 0<0)<;>cases decide (N≤l.getD i 0)<;>rfl
 refine yp (fun i:Nat=>(i:Int)) l.length (i6 (by omega)) _ () false (fun i hi hp=> ?_) (fun i hi hp=> ?_) ?_
 ·have hb:qne N l i=false:=by simpa using hp
  exact(hst i hi).trans (by rw[hb];rfl)
 ·have hb:qne N l i=true:=by simpa using hp
  exact(hst i hi).trans (by rw[hb];rfl)
 ·simp(disch:=omega)only[l3,rs]
theorem q9w{b:Bool}:(lk (bif b then(.inl ():Unit⊕Bool)else .inr false) (fun _=>some true) fun r=>some r)=some b:=by cases b<;>rfl
theorem sx(n:az)(l:List Int)(h:l.length≤1000000):jy n l=some (qkv n.1 l):=by
 unfold jy qkv;rw[qop n.1 n.2.1 n.2.2.1 n.2.2.2.1 l h,aq,q9w]
theorem qg7(N:Int)(l:List Int)(h:l.length≤1000000):nz N l=some (qkv N l):=by
 unfold nz qkv;rw[qo4 N [] 0 0 l h,aq,q9w]
structure Small (n : az) : Prop where
 trans : n.2.1.length ≤ 100
 ins : ∀ t ∈ n.2.1, t.2.1.length ≤ 60
 outs : ∀ t ∈ n.2.1, t.2.2.1.length ≤ 60
def qux(N:Int)(t:af):Bool:= !eqS t.1 ⟨#[]⟩&& !qv9 t.1|| !qkv N t.2.1|| !qkv N t.2.2.1
def cd(n:az):Bool:=decide (1≤n.1)&&decide (n.1≤40)&&decide (n.2.1.length≤60)&& !n.2.1.any (qux n.1)&&(decide (0≤n.2.2.1)&&decide (n.2.2.1<n.1))&&(decide (0≤n.2.2.2.1)&&decide (n.2.2.2.1<n.1))
theorem q4n(N x:Int):qkv N [x]=(decide (0≤x)&&decide (x<N)):=by
 unfold qkv qne;rw[Bool.eq_iff_iff];simp
theorem qna{n:az}(h:Small n):pi n=some (cd n):=by
 have hL:qla n.2.1 (n.2.1.length:Int) n.1 n.2.1 n.2.2.1 n.2.2.2.1 0=some (bif n.2.1.any (qux n.1)then .inr false else .inl ()):=by
  have hl:=h.trans;refine pc n.2.1 af.z (qux n.1) false (by omega) (fun i hi=> ?_) ?_
  ·have h1:=h.ins _ (a7 af.z hi);have h2:=h.outs _ (a7 af.z hi);unfold qux;simp(disch:=omega)only[sw,u7,q76,rs];rw[sx _ _ (by omega),sx _ _ (by omega),am];simp only[aq];cases eqS (n.2.1.getD i af.z).1 ⟨#[]⟩<;>cases qv9 (n.2.1.getD i af.z).1<;>cases qkv n.1 (n.2.1.getD i af.z).2.1<;>cases qkv n.1 (n.2.1.getD i af.z).2.2.1<;>rfl
  ·simp(disch:=omega)only[u7,rs]
 unfold pi cd;rw[hL,sx _ _ (by simp),sx _ _ (by simp),q4n,q4n];have e1:decide (1≤n.1)= !decide (n.1<1):=by rw[Bool.eq_iff_iff];simp
 have e2:decide (n.1≤40)= !decide (40<n.1):=by rw[Bool.eq_iff_iff];simp
 have e3:decide (n.2.1.length≤60)= !decide ((60:Int)<(n.2.1.length:Int)):=by rw[Bool.eq_iff_iff];simp;omega
 rw[e1,e2,e3];cases decide (n.1<1)<;>cases decide (40<n.1)<;>cases decide ((60:Int)<(n.2.1.length:Int))<;>cases n.2.1.any (qux n.1)<;>cases(decide (0≤n.2.2.1)&&decide (n.2.2.1<n.1))<;>cases(decide (0≤n.2.2.2.1)&&decide (n.2.2.2.1<n.1))<;>rfl
theorem y4{n:az}(h:Small n):pj n=some (cd n):=by
 have hL:qll n.1 n.2.1 n.2.2.1 n.2.2.2.1 0=some (bif n.2.1.any (qux n.1)then .inr false else .inl ()):=by
  have hl:=h.trans;refine pc n.2.1 af.z (qux n.1) false (by omega) (fun i hi=> ?_) ?_
  ·have h1:=h.ins _ (a7 af.z hi);have h2:=h.outs _ (a7 af.z hi);unfold qux;simp(disch:=omega)only[sw,vk,q2h,rs];rw[qg7 _ _ (by omega),qg7 _ _ (by omega),am];simp only[aq];cases eqS (n.2.1.getD i af.z).1 ⟨#[]⟩<;>cases qv9 (n.2.1.getD i af.z).1<;>cases qkv n.1 (n.2.1.getD i af.z).2.1<;>cases qkv n.1 (n.2.1.getD i af.z).2.2.1<;>rfl
  ·simp(disch:=omega)only[vk,rs]
 unfold pj cd;rw[hL];have e1:decide (1≤n.1)= !decide (n.1<1):=by rw[Bool.eq_iff_iff];simp
 have e2:decide (n.1≤40)= !decide (40<n.1):=by rw[Bool.eq_iff_iff];simp
 have e3:decide (n.2.1.length≤60)= !decide ((60:Int)<(n.2.1.length:Int)):=by rw[Bool.eq_iff_iff];simp;omega
 have e4:∀x:Int,decide (0≤x)= !decide (x<0):=fun x=>by rw[Bool.eq_iff_iff];simp
 have e5:∀x:Int,decide (x<n.1)= !decide (n.1≤x):=fun x=>by rw[Bool.eq_iff_iff];simp
 rw[e1,e2,e3,e4 n.2.2.1,e4 n.2.2.2.1,e5 n.2.2.1,e5 n.2.2.2.1];cases decide (n.1<1)<;>cases decide (40<n.1)<;>cases decide ((60:Int)<(n.2.1.length:Int))<;>cases n.2.1.any (qux n.1)<;>cases decide (n.2.2.1<0)<;>cases decide (n.1≤n.2.2.1)<;>cases decide (n.2.2.2.1<0)<;>cases decide (n.1≤n.2.2.2.1)<;>rfl
theorem qpf{N:Int}{l:List Int}:qkv N l=true↔(∀x∈l,0≤x∧x<N)∧l.Pairwise (·<·):=by
 unfold qkv;rw[List.all_eq_true];constructor
 ·intro h;have hq:∀i,i<l.length→(0≤l.getD i 0∧l.getD i 0<N)∧(0<i→l.getD (i-1) 0<l.getD i 0):=fun i hi=>by
   have:=h i (List.mem_range.2 hi);unfold qne at this;simp only[Bool.not_eq_true',Bool.or_eq_false_iff,Bool.and_eq_false_iff,decide_eq_false_iff_not]at this;refine⟨by omega,fun h0=> ?_⟩;rcases this.2 with h1|h1
   ·exact absurd h0 h1
   ·omega
  refine⟨fun x hx=> ?_,List.pairwise_iff_getElem.2 fun i j hi hj hij=> ?_⟩
  ·obtain⟨i,hi,rfl⟩:=rx 0 hx;exact(hq i hi).1
  ·have key:∀d,∀j,j=i+1+d→j<l.length→l.getD i 0<l.getD j 0:=by
    intro d
    induction d with
    |zero=>intro j hj hl;subst hj;exact(hq (i+1) hl).2 (by omega)
    |succ d ih=>
     intro j hj hl;have h1:=ih (i+1+d) rfl (by omega);have h2:=(hq j hl).2 (by omega);rw[show j-1=i+1+d by omega]at h2;omega
   have:=key (j-i-1) j (by omega) hj;rwa[p9 l i 0 hi,p9 l j 0 hj]at this
 ·rintro⟨h1,h2⟩ i hi;have hi:=List.mem_range.1 hi;have hb:=h1 _ (a7 0 hi);unfold qne;simp only[Bool.not_eq_true',Bool.or_eq_false_iff,Bool.and_eq_false_iff,decide_eq_false_iff_not];refine⟨by omega,?_⟩;by_cases h0:0<i
  ·right;have:=List.pairwise_iff_getElem.1 h2 (i-1) i (by omega) hi (by omega);rw[p9 l i 0 hi,p9 l (i-1) 0 (by omega)];omega
  ·exact .inl h0
theorem qm9(l:List Int)(h:l.length≤1000000):bt l=some l:=by
 unfold bt jz;simp(disch:=omega)only[List.nil_append,rs]
theorem q6f(a b:List Int)(ha:a.length≤1000000):x9 a b=some (decide (a=b)):=by
 unfold x9;by_cases hl:a.length=b.length
 ·rw[qjl (by simp[hl])];have hloop:qg0 a b 0=some (bif (List.range a.length).all (fun i=>decide (a.getD i 0=b.getD i 0))then .inl ()else .inr false):=by
   refine yp (fun i:Nat=>(i:Int)) a.length (i6 (by omega)) _ () false ?_ ?_ ?_
   ·intro i hi hp;have hp' :a.getD i 0=b.getD i 0:=of_decide_eq_true hp;simp(disch:=omega)only[m5,rs];rw[am]
   ·intro i hi hp;have hp' :a.getD i 0≠b.getD i 0:=of_decide_eq_false hp;simp(disch:=omega)only[m5,rs]
   ·simp(disch:=omega)only[m5,rs]
  rw[hloop,aq];have hall:(List.range a.length).all (fun i=>decide (a.getD i 0=b.getD i 0))=decide (a=b):=by
   rw[Bool.eq_iff_iff,List.all_eq_true,decide_eq_true_iff];constructor
   ·intro h;refine List.ext_getElem hl fun i h1 h2=> ?_
    have:=of_decide_eq_true (h i (List.mem_range.2 h1));rw[p9 a i 0 h1,p9 b i 0 h2]at this;exact this
   ·rintro rfl i _;simp
  rw[hall];cases decide (a=b)<;>rfl
 ·have:¬a=b:=fun h=>hl (by rw[h])
  rw[qjn (by simp;omega),decide_eq_false this]
end Go.Proofs.Ytdhfhpdadbopkaa
