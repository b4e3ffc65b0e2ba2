/-
  Freechoice: names, lists of places, nets: the program and the reference reckon alike.
-/
import Derived.Test.YtdhfhpdadbopkaaZ3Md
import Derived.Test.YtdhfhpdadbopkaaZ3KE
import Derived.KernelRfl
set_option linter.all false
namespace Go.Proofs.Ytdhfhpdadbopkaa
open Go.K Go.M
theorem q4x:qiz=some true:=by kernel_rfl
def eqS(a b:ByteArray):Bool:=ByteArray.toList a==ByteArray.toList b
theorem vy(a b:ByteArray):(ByteArray.toList a==ByteArray.toList b)=eqS a b:=rfl
def qtm(c:Int):Bool:=decide (65≤c)&&decide (c≤90)||decide (97≤c)&&decide (c≤122)
def qdz(c:Int):Bool:=qtm c||decide (48≤c)&&decide (c≤57)||decide (c=95)||decide (c=45)||decide (c=46)
abbrev byt(s:ByteArray)(i:Nat):Int:=((ByteArray.data s).getD i 0).toNat
theorem qzv(c:Int):qae c=some (qtm c):=by
 unfold qae qtm;cases decide ((65:Int)≤c)<;>cases decide (c≤(90:Int))<;>cases decide ((97:Int)≤c)<;>cases decide (c≤(122:Int))<;>rfl
theorem qgz(c:Int):wz c=some (qtm c):=by
 unfold wz qtm;cases decide ((65:Int)≤c)<;>cases decide (c≤(90:Int))<;>cases decide ((97:Int)≤c)<;>cases decide (c≤(122:Int))<;>rfl
theorem q7i(c:Int):qkn c=some (qdz c):=by
 unfold qkn qdz;rw[qzv,al];cases qtm c<;>cases decide ((48:Int)≤c)<;>cases decide (c≤(57:Int))<;>cases decide (c=(95:Int))<;>cases decide (c=(45:Int))<;>cases decide (c=(46:Int))<;>rfl
def qwl(s:ByteArray):Bool:=decide (1≤s.size)&&decide (s.size≤40)&&qtm (byt s 0)&&(List.range s.size).all fun i=>qdz (byt s i)
theorem q76(s:ByteArray):qdy s=some (qwl s):=by
 unfold qdy qwl;by_cases h1:(s.size:Int)<1
 ·have:¬1≤s.size:=by omega
  simp(disch:=omega)only[rs];rw[decide_eq_false this];rfl
 ·have h1' :1≤s.size:=by omega
  rw[decide_eq_true h1'];by_cases h2:40<(s.size:Int)
  ·have:¬s.size≤40:=by omega
   simp(disch:=omega)only[rs];rw[decide_eq_false this];rfl
  ·have h2' :s.size≤40:=by omega
   rw[decide_eq_true h2'];have hL:qlz s (s.size:Int) 0=some (bif (List.range s.size).all (fun i=>qdz (byt s i))then .inl ()else .inr false):=by
    refine v8 (fun i:Nat=>(i:Int)) s.size (h8 (by omega)) _ () false ?_ ?_ ?_
    ·intro i hi hp;simp(disch:=omega)only[ql,q7i,hp,Bool.not_true,rs];rw[am]
    ·intro i hi hp;simp(disch:=omega)only[ql,q7i,hp,Bool.not_false,rs]
    ·simp(disch:=omega)only[ql,rs]
   simp(disch:=omega)only[qzv,hL,rs];cases qtm (byt s 0)with
   |false=>rfl
   |true=>cases(List.range s.size).all (fun i=>qdz (byt s i))<;>rfl
theorem qu4(n:Nat)(p:Nat→Bool):(List.range (n+1)).all p=(p 0&&(List.range n).all fun i=>p (i+1)):=by
 rw[List.range_succ_eq_map,List.all_cons,List.all_map];rfl
theorem q2b(s:ByteArray):qb0 s=some (qwl s):=by
 unfold qb0 qwl;by_cases h1:(s.size:Int)<1
 ·have:¬1≤s.size:=by omega
  simp(disch:=omega)only[rs];rw[decide_eq_false this];rfl
 ·have h1' :1≤s.size:=by omega
  rw[decide_eq_true h1'];by_cases h2:40<(s.size:Int)
  ·have:¬s.size≤40:=by omega
   simp(disch:=omega)only[rs];rw[decide_eq_false this];rfl
  ·have h2' :s.size≤40:=by omega
   rw[decide_eq_true h2'];have hL:qj3 s 1=some (bif (List.range (s.size-1)).all (fun i=>qdz (byt s (i+1)))then .inl ()else .inr false):=by
    refine v8 (fun i:Nat=>((i+1:Nat):Int)) (s.size-1) (h8 (by omega)) _ () false ?_ ?_ ?_
    ·intro i hi hp;unfold qdz at hp;simp(disch:=omega)only[o8,qgz,rs];rw[am];revert hp;cases qtm (byt s (i+1))<;>cases decide ((48:Int)≤byt s (i+1))<;>cases decide (byt s (i+1)≤(57:Int))<;>cases decide (byt s (i+1)=(95:Int))<;>cases decide (byt s (i+1)=(45:Int))<;>cases decide (byt s (i+1)=(46:Int))<;>intro hp<;>first|rfl|cases hp
    ·intro i hi hp;unfold qdz at hp;simp(disch:=omega)only[o8,qgz,rs];revert hp;cases qtm (byt s (i+1))<;>cases decide ((48:Int)≤byt s (i+1))<;>cases decide (byt s (i+1)≤(57:Int))<;>cases decide (byt s (i+1)=(95:Int))<;>cases decide (byt s (i+1)=(45:Int))<;>cases decide (byt s (i+1)=(46:Int))<;>intro hp<;>first|rfl|cases hp
    ·have e:s.size-1+1=s.size:=by omega
     rw[e];simp(disch:=omega)only[o8,rs]
   simp(disch:=omega)only[qgz,hL,rs];have e:s.size=s.size-1+1:=by omega
   have e2:(List.range s.size).all (fun i=>qdz (byt s i))=(qdz (byt s 0)&&(List.range (s.size-1)).all fun i=>qdz (byt s (i+1))):=by
    conv=>lhs;rw[e]
    exact qu4 _ _
   rw[e2];have e3:qtm (byt s 0)=true→qdz (byt s 0)=true:=fun h=>by unfold qdz;rw[h];rfl
   cases h:qtm (byt s 0)with
   |false=>rfl
   |true=>
    rw[e3 h];cases(List.range (s.size-1)).all (fun i=>qdz (byt s (i+1)))<;>rfl
def ii(l:List Int)(x:Int):Bool:=l.any fun y=>decide (x=y)
theorem qcm{l:List Int}{x:Int}:ii l x=true↔x∈l:=by
 unfold ii;rw[List.any_eq_true];constructor
 ·rintro⟨y,hy,h⟩;rw[of_decide_eq_true h];exact hy
 ·intro h;exact⟨x,h,decide_eq_true rfl⟩
theorem qos{l:List Int}{x:Int}:ii l x=false↔x∉l:=by
 rw[←qcm];cases ii l x<;>simp
theorem qsc(l:List Int)(h:l.length≤1000000)(x:Int):fu l x=some (ii l x):=by
 have hL:xl l x (l.length:Int) 0=some (qn6 (fun i=>(i:Int)) (og (fun y=>decide (x=y)) l)):=by
  refine k7 l 0 (fun y=>decide (x=y)) (fun i=>(i:Int)) (by omega) (fun i hi=> ?_) ?_
  ·simp(disch:=omega)only[jb,rs];rw[am];cases decide (x=l.getD i 0)<;>rfl
  ·simp(disch:=omega)only[jb,rs]
 unfold fu qu;rw[hL,al,t6,al,tz];rfl
theorem qca(l:List Int)(h:l.length≤1000000)(x:Int):pu l x=some (ii l x):=by
 have hL:qs0 l x 0=some (bif l.any (fun y=>decide (y=x))then .inr true else .inl ()):=by
  refine yk l 0 (fun y=>decide (y=x)) true (by omega) (fun i hi=> ?_) ?_
  ·simp(disch:=omega)only[qb1,rs];rw[am];cases decide (l.getD i 0=x)<;>rfl
  ·simp(disch:=omega)only[qb1,rs]
 unfold pu ii;have e:(l.any fun y=>decide (x=y))=l.any fun y=>decide (y=x):=q4w fun y _=>decide_eq_decide.2 ⟨Eq.symm,Eq.symm⟩
 rw[hL,al,e];cases l.any (fun y=>decide (y=x))<;>rfl
def qny(N:Int)(l:List Int)(i:Nat):Bool:=decide (l.getD i 0<0)||decide (N≤l.getD i 0)||decide (0<i)&&decide (l.getD i 0≤l.getD (i-1) 0)
def qlm(N:Int)(l:List Int):Bool:=(List.range l.length).all fun i=> !qny N l i
theorem qpg(N:Int)(ts:List ae)(a b:Int)(l:List Int)(h:l.length≤1000000):qjz l l (l.length:Int) N ts a b 0=some (bif (List.range l.length).all (fun i=> !qny N l i)then .inl ()else .inr false):=by
 have hst:∀i:Nat,i<l.length→l3 l l (l.length:Int) N ts a b (R:=LR Int Unit Bool) (i:Int) (fun a' =>some (.next a')) (fun e=>some (.done e)) (fun r=>some (.ret r))=some (bif qny N l i then .ret false else .next ((i+1:Nat):Int)):=fun i hi=>by
  unfold qny;by_cases h0:0<i
  ·have e:(i:Int)-1=((i-1:Nat):Int):=by omega
   have h0' :(0:Int)<(i:Int):=by omega
   rw[decide_eq_true h0];simp(disch:=omega)only[l3,e,rs];rw[am];cases decide (l.getD i 0<0)<;>cases decide (N≤l.getD i 0)<;>cases decide (l.getD i 0≤l.getD (i-1) 0)<;>rfl
  ·have h0' :¬(0:Int)<(i:Int):=by omega
   rw[decide_eq_false h0];simp(disch:=omega)only[l3,rs];rw[am];cases decide (l.getD i 0<0)<;>cases decide (N≤l.getD i 0)<;>rfl
 refine v8 (fun i:Nat=>(i:Int)) l.length (h8 (by omega)) _ () false (fun i hi hp=> ?_) (fun i hi hp=> ?_) ?_
 ·have hb:qny N l i=false:=by simpa using hp
  exact(hst i hi).trans (by rw[hb];rfl)
 ·have hb:qny N l i=true:=by simpa using hp
  exact(hst i hi).trans (by rw[hb];rfl)
 ·simp(disch:=omega)only[l3,rs]
theorem qpr(N:Int)(ts:List ae)(a b:Int)(l:List Int)(h:l.length≤1000000):qj9 N l 0=some (bif (List.range l.length).all (fun i=> !qny N l i)then .inl ()else .inr false):=by
 have hst:∀i:Nat,i<l.length→l4 N l (R:=LR Int Unit Bool) (i:Int) (fun a' =>some (.next a')) (fun e=>some (.done e)) (fun r=>some (.ret r))=some (bif qny N l i then .ret false else .next ((i+1:Nat):Int)):=fun i hi=>by
  unfold qny;by_cases h0:0<i
  ·have e:(i:Int)-1=((i-1:Nat):Int):=by omega
   have h0' :(0:Int)<(i:Int):=by omega
   rw[decide_eq_true h0];simp(disch:=omega)only[l4,e,rs];rw[am];cases decide (l.getD i 0<0)<;>cases decide (N≤l.getD i 0)<;>cases decide (l.getD i 0≤l.getD (i-1) 0)<;>rfl
  ·have h0' :¬(0:Int)<(i:Int):=by omega
   rw[decide_eq_false h0];simp(disch:=omega)only[l4,rs];rw[am];cases decide (l.getD i 0<0)<;>cases decide (N≤l.getD i 0)<;>rfl
 refine v8 (fun i:Nat=>(i:Int)) l.length (h8 (by omega)) _ () false (fun i hi hp=> ?_) (fun i hi hp=> ?_) ?_
 ·have hb:qny N l i=false:=by simpa using hp
  exact(hst i hi).trans (by rw[hb];rfl)
 ·have hb:qny N l i=true:=by simpa using hp
  exact(hst i hi).trans (by rw[hb];rfl)
 ·simp(disch:=omega)only[l4,rs]
theorem q92{b:Bool}:(lk (bif b then(.inl ():Unit⊕Bool)else .inr false) (fun _=>some true) fun r=>some r)=some b:=by cases b<;>rfl
theorem t7(n:a8)(l:List Int)(h:l.length≤1000000):jz n l=some (qlm n.1 l):=by
 unfold jz qlm;rw[qpg n.1 n.2.1 n.2.2.1 n.2.2.2.1 l h,al,q92]
theorem qh3(N:Int)(l:List Int)(h:l.length≤1000000):ot N l=some (qlm N l):=by
 unfold ot qlm;rw[qpr N [] 0 0 l h,al,q92]
structure Small (n : a8) : Prop where
 trans : n.2.1.length ≤ 100
 ins : ∀ t ∈ n.2.1, t.2.1.length ≤ 60
 outs : ∀ t ∈ n.2.1, t.2.2.1.length ≤ 60
def qu6(N:Int)(t:ae):Bool:= !eqS t.1 ⟨#[]⟩&& !qwl t.1|| !qlm N t.2.1|| !qlm N t.2.2.1
def bv(n:a8):Bool:=decide (1≤n.1)&&decide (n.1≤40)&&decide (n.2.1.length≤60)&& !n.2.1.any (qu6 n.1)&&(decide (0≤n.2.2.1)&&decide (n.2.2.1<n.1))&&(decide (0≤n.2.2.2.1)&&decide (n.2.2.2.1<n.1))
theorem q4e(N x:Int):qlm N [x]=(decide (0≤x)&&decide (x<N)):=by
 unfold qlm qny;rw[Bool.eq_iff_iff];simp
theorem qnt{n:a8}(h:Small n):qn n=some (bv n):=by
 have hL:ql5 n.2.1 (n.2.1.length:Int) n.1 n.2.1 n.2.2.1 n.2.2.2.1 0=some (bif n.2.1.any (qu6 n.1)then .inr false else .inl ()):=by
  have hl:=h.trans;refine yk n.2.1 ae.z (qu6 n.1) false (by omega) (fun i hi=> ?_) ?_
  ·have h1:=h.ins _ (ba ae.z hi);have h2:=h.outs _ (ba ae.z hi);unfold qu6;simp(disch:=omega)only[vy,wn,q76,rs];rw[t7 _ _ (by omega),t7 _ _ (by omega),am];simp only[al];cases eqS (n.2.1.getD i ae.z).1 ⟨#[]⟩<;>cases qwl (n.2.1.getD i ae.z).1<;>cases qlm n.1 (n.2.1.getD i ae.z).2.1<;>cases qlm n.1 (n.2.1.getD i ae.z).2.2.1<;>rfl
  ·simp(disch:=omega)only[wn,rs]
 unfold qn bv;rw[hL,t7 _ _ (by simp),t7 _ _ (by simp),q4e,q4e];have e1:decide (1≤n.1)= !decide (n.1<1):=by rw[Bool.eq_iff_iff];simp
 have e2:decide (n.1≤40)= !decide (40<n.1):=by rw[Bool.eq_iff_iff];simp
 have e3:decide (n.2.1.length≤60)= !decide ((60:Int)<(n.2.1.length:Int)):=by rw[Bool.eq_iff_iff];simp;omega
 rw[e1,e2,e3];cases decide (n.1<1)<;>cases decide (40<n.1)<;>cases decide ((60:Int)<(n.2.1.length:Int))<;>cases n.2.1.any (qu6 n.1)<;>cases(decide (0≤n.2.2.1)&&decide (n.2.2.1<n.1))<;>cases(decide (0≤n.2.2.2.1)&&decide (n.2.2.2.1<n.1))<;>rfl
theorem q4a{n:a8}(h:Small n):qd4 n=some (bv n):=by
 have hL:qmf n.1 n.2.1 n.2.2.1 n.2.2.2.1 0=some (bif n.2.1.any (qu6 n.1)then .inr false else .inl ()):=by
  have hl:=h.trans;refine yk n.2.1 ae.z (qu6 n.1) false (by omega) (fun i hi=> ?_) ?_
  ·have h1:=h.ins _ (ba ae.z hi);have h2:=h.outs _ (ba ae.z hi);unfold qu6;simp(disch:=omega)only[vy,w9,q2b,rs];rw[qh3 _ _ (by omega),qh3 _ _ (by omega),am];simp only[al];cases eqS (n.2.1.getD i ae.z).1 ⟨#[]⟩<;>cases qwl (n.2.1.getD i ae.z).1<;>cases qlm n.1 (n.2.1.getD i ae.z).2.1<;>cases qlm n.1 (n.2.1.getD i ae.z).2.2.1<;>rfl
  ·simp(disch:=omega)only[w9,rs]
 unfold qd4 bv;rw[hL];have e1:decide (1≤n.1)= !decide (n.1<1):=by rw[Bool.eq_iff_iff];simp
 have e2:decide (n.1≤40)= !decide (40<n.1):=by rw[Bool.eq_iff_iff];simp
 have e3:decide (n.2.1.length≤60)= !decide ((60:Int)<(n.2.1.length:Int)):=by rw[Bool.eq_iff_iff];simp;omega
 have e4:∀x:Int,decide (0≤x)= !decide (x<0):=fun x=>by rw[Bool.eq_iff_iff];simp
 have e5:∀x:Int,decide (x<n.1)= !decide (n.1≤x):=fun x=>by rw[Bool.eq_iff_iff];simp
 rw[e1,e2,e3,e4 n.2.2.1,e4 n.2.2.2.1,e5 n.2.2.1,e5 n.2.2.2.1];cases decide (n.1<1)<;>cases decide (40<n.1)<;>cases decide ((60:Int)<(n.2.1.length:Int))<;>cases n.2.1.any (qu6 n.1)<;>cases decide (n.2.2.1<0)<;>cases decide (n.1≤n.2.2.1)<;>cases decide (n.2.2.2.1<0)<;>cases decide (n.1≤n.2.2.2.1)<;>rfl
theorem qkc{N:Int}{l:List Int}:qlm N l=true↔(∀x∈l,0≤x∧x<N)∧l.Pairwise (·<·):=by
 unfold qlm;rw[List.all_eq_true];constructor
 ·intro h;have hq:∀i,i<l.length→(0≤l.getD i 0∧l.getD i 0<N)∧(0<i→l.getD (i-1) 0<l.getD i 0):=fun i hi=>by
   have:=h i (List.mem_range.2 hi);unfold qny at this;simp only[Bool.not_eq_true',Bool.or_eq_false_iff,Bool.and_eq_false_iff,decide_eq_false_iff_not]at this;refine⟨by omega,fun h0=> ?_⟩;rcases this.2 with h1|h1
   ·exact absurd h0 h1
   ·omega
  refine⟨fun x hx=> ?_,List.pairwise_iff_getElem.2 fun i j hi hj hij=> ?_⟩
  ·obtain⟨i,hi,rfl⟩:=qi 0 hx;exact(hq i hi).1
  ·have key:∀d,∀j,j=i+1+d→j<l.length→l.getD i 0<l.getD j 0:=by
    intro d
    induction d with
    |zero=>intro j hj hl;subst hj;exact(hq (i+1) hl).2 (by omega)
    |succ d ih=>
     intro j hj hl;have h1:=ih (i+1+d) rfl (by omega);have h2:=(hq j hl).2 (by omega);rw[show j-1=i+1+d by omega]at h2;omega
   have:=key (j-i-1) j (by omega) hj;rwa[oh l i 0 hi,oh l j 0 hj]at this
 ·rintro⟨h1,h2⟩ i hi;have hi:=List.mem_range.1 hi;have hb:=h1 _ (ba 0 hi);unfold qny;simp only[Bool.not_eq_true',Bool.or_eq_false_iff,Bool.and_eq_false_iff,decide_eq_false_iff_not];refine⟨by omega,?_⟩;by_cases h0:0<i
  ·right;have:=List.pairwise_iff_getElem.1 h2 (i-1) i (by omega) hi (by omega);rw[oh l i 0 hi,oh l (i-1) 0 (by omega)];omega
  ·exact .inl h0
theorem q2s(l:List Int)(h:l.length≤1000000):br l=some l:=by
 unfold br j1;simp(disch:=omega)only[List.nil_append,rs]
end Go.Proofs.Ytdhfhpdadbopkaa
