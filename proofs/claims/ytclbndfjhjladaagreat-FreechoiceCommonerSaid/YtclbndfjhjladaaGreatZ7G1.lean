/-
  Freechoice: names, lists of places, nets: the program and the reference reckon alike.
-/
import Derived.Test.YtclbndfjhjladaaGreatZ7Md
import Derived.Test.YtclbndfjhjladaaGreatZ7KE
import Derived.KernelRfl
set_option linter.all false
namespace Go.Proofs.YtclbndfjhjladaaGreat
open Go.K Go.M
theorem jv4:q5y=some true:=by kernel_rfl
def eqS(a b:ByteArray):Bool:=ByteArray.toList a==ByteArray.toList b
theorem jyr(a b:ByteArray):(ByteArray.toList a==ByteArray.toList b)=eqS a b:=rfl
def jjk(c:Int):Bool:=decide (65≤c)&&decide (c≤90)||decide (97≤c)&&decide (c≤122)
def qwy(c:Int):Bool:=jjk c||decide (48≤c)&&decide (c≤57)||decide (c=95)||decide (c=45)||decide (c=46)
abbrev byt(s:ByteArray)(i:Nat):Int:=((ByteArray.data s).getD i 0).toNat
theorem jqa(c:Int):qrt c=some (jjk c):=by
 unfold qrt jjk;cases decide ((65:Int)≤c)<;>cases decide (c≤(90:Int))<;>cases decide ((97:Int)≤c)<;>cases decide (c≤(122:Int))<;>rfl
theorem q2d(c:Int):qlm c=some (jjk c):=by
 unfold qlm jjk;cases decide ((65:Int)≤c)<;>cases decide (c≤(90:Int))<;>cases decide ((97:Int)≤c)<;>cases decide (c≤(122:Int))<;>rfl
theorem jy7(c:Int):q7p c=some (qwy c):=by
 unfold q7p qwy;rw[jqa,ao];cases jjk c<;>cases decide ((48:Int)≤c)<;>cases decide (c≤(57:Int))<;>cases decide (c=(95:Int))<;>cases decide (c=(45:Int))<;>cases decide (c=(46:Int))<;>rfl
def jm8(s:ByteArray):Bool:=decide (1≤s.size)&&decide (s.size≤40)&&jjk (byt s 0)&&(List.range s.size).all fun i=>qwy (byt s i)
theorem jz2(s:ByteArray):qww s=some (jm8 s):=by
 unfold qww jm8;by_cases h1:(s.size:Int)<1
 ·have:¬1≤s.size:=by omega
  simp(disch:=omega)only[rs];rw[decide_eq_false this];rfl
 ·have h1' :1≤s.size:=by omega
  rw[decide_eq_true h1'];by_cases h2:40<(s.size:Int)
  ·have:¬s.size≤40:=by omega
   simp(disch:=omega)only[rs];rw[decide_eq_false this];rfl
  ·have h2' :s.size≤40:=by omega
   rw[decide_eq_true h2'];have hL:q8z s (s.size:Int) 0=some (bif (List.range s.size).all (fun i=>qwy (byt s i))then .inl ()else .inr false):=by
    refine qlc (fun i:Nat=>(i:Int)) s.size (fg (by omega)) _ () false ?_ ?_ ?_
    ·intro i hi hp;simp(disch:=omega)only[qee,jy7,hp,Bool.not_true,rs];rw[ar]
    ·intro i hi hp;simp(disch:=omega)only[qee,jy7,hp,Bool.not_false,rs]
    ·simp(disch:=omega)only[qee,rs]
   simp(disch:=omega)only[jqa,hL,rs];cases jjk (byt s 0)with
   |false=>rfl
   |true=>cases(List.range s.size).all (fun i=>qwy (byt s i))<;>rfl
theorem jlh(n:Nat)(p:Nat→Bool):(List.range (n+1)).all p=(p 0&&(List.range n).all fun i=>p (i+1)):=by
 rw[List.range_succ_eq_map,List.all_cons,List.all_map];rfl
theorem jsx(s:ByteArray):qud s=some (jm8 s):=by
 unfold qud jm8;by_cases h1:(s.size:Int)<1
 ·have:¬1≤s.size:=by omega
  simp(disch:=omega)only[rs];rw[decide_eq_false this];rfl
 ·have h1' :1≤s.size:=by omega
  rw[decide_eq_true h1'];by_cases h2:40<(s.size:Int)
  ·have:¬s.size≤40:=by omega
   simp(disch:=omega)only[rs];rw[decide_eq_false this];rfl
  ·have h2' :s.size≤40:=by omega
   rw[decide_eq_true h2'];have hL:q6k s 1=some (bif (List.range (s.size-1)).all (fun i=>qwy (byt s (i+1)))then .inl ()else .inr false):=by
    refine qlc (fun i:Nat=>((i+1:Nat):Int)) (s.size-1) (fg (by omega)) _ () false ?_ ?_ ?_
    ·intro i hi hp;unfold qwy at hp;simp(disch:=omega)only[qb2,q2d,rs];rw[ar];revert hp;cases jjk (byt s (i+1))<;>cases decide ((48:Int)≤byt s (i+1))<;>cases decide (byt s (i+1)≤(57:Int))<;>cases decide (byt s (i+1)=(95:Int))<;>cases decide (byt s (i+1)=(45:Int))<;>cases decide (byt s (i+1)=(46:Int))<;>intro hp<;>first|rfl|cases hp
    ·intro i hi hp;unfold qwy at hp;simp(disch:=omega)only[qb2,q2d,rs];revert hp;cases jjk (byt s (i+1))<;>cases decide ((48:Int)≤byt s (i+1))<;>cases decide (byt s (i+1)≤(57:Int))<;>cases decide (byt s (i+1)=(95:Int))<;>cases decide (byt s (i+1)=(45:Int))<;>cases decide (byt s (i+1)=(46:Int))<;>intro hp<;>first|rfl|cases hp
    ·have e:s.size-1+1=s.size:=by omega
     rw[e];simp(disch:=omega)only[qb2,rs]
   simp(disch:=omega)only[q2d,hL,rs];have e:s.size=s.size-1+1:=by omega
   have e2:(List.range s.size).all (fun i=>qwy (byt s i))=(qwy (byt s 0)&&(List.range (s.size-1)).all fun i=>qwy (byt s (i+1))):=by
    conv=>lhs;rw[e]
    exact jlh _ _
   rw[e2];have e3:jjk (byt s 0)=true→qwy (byt s 0)=true:=fun h=>by unfold qwy;rw[h];rfl
   cases h:jjk (byt s 0)with
   |false=>rfl
   |true=>
    rw[e3 h];cases(List.range (s.size-1)).all (fun i=>qwy (byt s (i+1)))<;>rfl
def u7(l:List Int)(x:Int):Bool:=l.any fun y=>decide (x=y)
theorem t3{l:List Int}{x:Int}:u7 l x=true↔x∈l:=by
 unfold u7;rw[List.any_eq_true];constructor
 ·rintro⟨y,hy,h⟩;rw[of_decide_eq_true h];exact hy
 ·intro h;exact⟨x,h,decide_eq_true rfl⟩
theorem j3p{l:List Int}{x:Int}:u7 l x=false↔x∉l:=by
 rw[←t3];cases u7 l x<;>simp
theorem qip(l:List Int)(h:l.length≤1000000)(x:Int):bd l x=some (u7 l x):=by
 have hL:qmk l x (l.length:Int) 0=some (q38 (fun i=>(i:Int)) (zm (fun y=>decide (x=y)) l)):=by
  refine kq l 0 (fun y=>decide (x=y)) (fun i=>(i:Int)) (by omega) (fun i hi=> ?_) ?_
  ·simp(disch:=omega)only[pd,rs];rw[ar];cases decide (x=l.getD i 0)<;>rfl
  ·simp(disch:=omega)only[pd,rs]
 unfold bd qei;rw[hL,ao,qbc,ao,qfa];rfl
def jbd(N:Int)(l:List Int)(i:Nat):Bool:=decide (l.getD i 0<0)||decide (N≤l.getD i 0)||decide (0<i)&&decide (l.getD i 0≤l.getD (i-1) 0)
def q8i(N:Int)(l:List Int):Bool:=(List.range l.length).all fun i=> !jbd N l i
theorem jc9(N:Int)(ts:List ab)(a b:Int)(l:List Int)(h:l.length≤1000000):q6f l l (l.length:Int) N ts a b 0=some (bif (List.range l.length).all (fun i=> !jbd N l i)then .inl ()else .inr false):=by
 have hst:∀i:Nat,i<l.length→tr l l (l.length:Int) N ts a b (R:=LR Int Unit Bool) (i:Int) (fun a' =>some (.next a')) (fun e=>some (.done e)) (fun r=>some (.ret r))=some (bif jbd N l i then .ret false else .next ((i+1:Nat):Int)):=fun i hi=>by
  unfold jbd;by_cases h0:0<i
  ·have e:(i:Int)-1=((i-1:Nat):Int):=by omega
   have h0' :(0:Int)<(i:Int):=by omega
   rw[decide_eq_true h0];simp(disch:=omega)only[tr,e,rs];rw[ar];cases decide (l.getD i 0<0)<;>cases decide (N≤l.getD i 0)<;>cases decide (l.getD i 0≤l.getD (i-1) 0)<;>rfl
  ·have h0' :¬(0:Int)<(i:Int):=by omega
   rw[decide_eq_false h0];simp(disch:=omega)only[tr,rs];rw[ar];cases decide (l.getD i 0<0)<;>cases decide (N≤l.getD i 0)<;>rfl
 refine qlc (fun i:Nat=>(i:Int)) l.length (fg (by omega)) _ () false (fun i hi hp=> ?_) (fun i hi hp=> ?_) ?_
 ·have hb:jbd N l i=false:=by simpa using hp
  exact(hst i hi).trans (by rw[hb];rfl)
 ·have hb:jbd N l i=true:=by simpa using hp
  exact(hst i hi).trans (by rw[hb];rfl)
 ·simp(disch:=omega)only[tr,rs]
theorem jdd(N:Int)(ts:List ab)(a b:Int)(l:List Int)(h:l.length≤1000000):q6q N l 0=some (bif (List.range l.length).all (fun i=> !jbd N l i)then .inl ()else .inr false):=by
 have hst:∀i:Nat,i<l.length→tu N l (R:=LR Int Unit Bool) (i:Int) (fun a' =>some (.next a')) (fun e=>some (.done e)) (fun r=>some (.ret r))=some (bif jbd N l i then .ret false else .next ((i+1:Nat):Int)):=fun i hi=>by
  unfold jbd;by_cases h0:0<i
  ·have e:(i:Int)-1=((i-1:Nat):Int):=by omega
   have h0' :(0:Int)<(i:Int):=by omega
   rw[decide_eq_true h0];simp(disch:=omega)only[tu,e,rs];rw[ar];cases decide (l.getD i 0<0)<;>cases decide (N≤l.getD i 0)<;>cases decide (l.getD i 0≤l.getD (i-1) 0)<;>rfl
  ·have h0' :¬(0:Int)<(i:Int):=by omega
   rw[decide_eq_false h0];simp(disch:=omega)only[tu,rs];rw[ar];cases decide (l.getD i 0<0)<;>cases decide (N≤l.getD i 0)<;>rfl
 refine qlc (fun i:Nat=>(i:Int)) l.length (fg (by omega)) _ () false (fun i hi hp=> ?_) (fun i hi hp=> ?_) ?_
 ·have hb:jbd N l i=false:=by simpa using hp
  exact(hst i hi).trans (by rw[hb];rfl)
 ·have hb:jbd N l i=true:=by simpa using hp
  exact(hst i hi).trans (by rw[hb];rfl)
 ·simp(disch:=omega)only[tu,rs]
theorem j19{b:Bool}:(lk (bif b then(.inl ():Unit⊕Bool)else .inr false) (fun _=>some true) fun r=>some r)=some b:=by cases b<;>rfl
theorem qhi(n:dj)(l:List Int)(h:l.length≤1000000):ql n l=some (q8i n.1 l):=by
 unfold ql q8i;rw[jc9 n.1 n.2.1 n.2.2.1 n.2.2.2.1 l h,ao,j19]
theorem q3x(N:Int)(l:List Int)(h:l.length≤1000000):qbf N l=some (q8i N l):=by
 unfold qbf q8i;rw[jdd N [] 0 0 l h,ao,j19]
structure Small (n : dj) : Prop where
 trans : n.2.1.length ≤ 100
 ins : ∀ t ∈ n.2.1, t.2.1.length ≤ 60
 outs : ∀ t ∈ n.2.1, t.2.2.1.length ≤ 60
def jor(N:Int)(t:ab):Bool:= !eqS t.1 ⟨#[]⟩&& !jm8 t.1|| !q8i N t.2.1|| !q8i N t.2.2.1
def n5(n:dj):Bool:=decide (1≤n.1)&&decide (n.1≤40)&&decide (n.2.1.length≤60)&& !n.2.1.any (jor n.1)&&(decide (0≤n.2.2.1)&&decide (n.2.2.1<n.1))&&(decide (0≤n.2.2.2.1)&&decide (n.2.2.2.1<n.1))
theorem jvf(N x:Int):q8i N [x]=(decide (0≤x)&&decide (x<N)):=by
 unfold q8i jbd;rw[Bool.eq_iff_iff];simp
theorem jlf{n:dj}(h:Small n):jw n=some (n5 n):=by
 have hL:q84 n.2.1 (n.2.1.length:Int) n.1 n.2.1 n.2.2.1 n.2.2.2.1 0=some (bif n.2.1.any (jor n.1)then .inr false else .inl ()):=by
  have hl:=h.trans;refine q15 n.2.1 ab.z (jor n.1) false (by omega) (fun i hi=> ?_) ?_
  ·have h1:=h.ins _ (bm ab.z hi);have h2:=h.outs _ (bm ab.z hi);unfold jor;simp(disch:=omega)only[jyr,qli,jz2,rs];rw[qhi _ _ (by omega),qhi _ _ (by omega),ar];simp only[ao];cases eqS (n.2.1.getD i ab.z).1 ⟨#[]⟩<;>cases jm8 (n.2.1.getD i ab.z).1<;>cases q8i n.1 (n.2.1.getD i ab.z).2.1<;>cases q8i n.1 (n.2.1.getD i ab.z).2.2.1<;>rfl
  ·simp(disch:=omega)only[qli,rs]
 unfold jw n5;rw[hL,qhi _ _ (by simp),qhi _ _ (by simp),jvf,jvf];have e1:decide (1≤n.1)= !decide (n.1<1):=by rw[Bool.eq_iff_iff];simp
 have e2:decide (n.1≤40)= !decide (40<n.1):=by rw[Bool.eq_iff_iff];simp
 have e3:decide (n.2.1.length≤60)= !decide ((60:Int)<(n.2.1.length:Int)):=by rw[Bool.eq_iff_iff];simp;omega
 rw[e1,e2,e3];cases decide (n.1<1)<;>cases decide (40<n.1)<;>cases decide ((60:Int)<(n.2.1.length:Int))<;>cases n.2.1.any (jor n.1)<;>cases(decide (0≤n.2.2.1)&&decide (n.2.2.1<n.1))<;>cases(decide (0≤n.2.2.2.1)&&decide (n.2.2.2.1<n.1))<;>rfl
theorem jim{n:dj}(h:Small n):qrv n=some (n5 n):=by
 have hL:q9d n.1 n.2.1 n.2.2.1 n.2.2.2.1 0=some (bif n.2.1.any (jor n.1)then .inr false else .inl ()):=by
  have hl:=h.trans;refine q15 n.2.1 ab.z (jor n.1) false (by omega) (fun i hi=> ?_) ?_
  ·have h1:=h.ins _ (bm ab.z hi);have h2:=h.outs _ (bm ab.z hi);unfold jor;simp(disch:=omega)only[jyr,qlp,jsx,rs];rw[q3x _ _ (by omega),q3x _ _ (by omega),ar];simp only[ao];cases eqS (n.2.1.getD i ab.z).1 ⟨#[]⟩<;>cases jm8 (n.2.1.getD i ab.z).1<;>cases q8i n.1 (n.2.1.getD i ab.z).2.1<;>cases q8i n.1 (n.2.1.getD i ab.z).2.2.1<;>rfl
  ·simp(disch:=omega)only[qlp,rs]
 unfold qrv n5;rw[hL];have e1:decide (1≤n.1)= !decide (n.1<1):=by rw[Bool.eq_iff_iff];simp
 have e2:decide (n.1≤40)= !decide (40<n.1):=by rw[Bool.eq_iff_iff];simp
 have e3:decide (n.2.1.length≤60)= !decide ((60:Int)<(n.2.1.length:Int)):=by rw[Bool.eq_iff_iff];simp;omega
 have e4:∀x:Int,decide (0≤x)= !decide (x<0):=fun x=>by rw[Bool.eq_iff_iff];simp
 have e5:∀x:Int,decide (x<n.1)= !decide (n.1≤x):=fun x=>by rw[Bool.eq_iff_iff];simp
 rw[e1,e2,e3,e4 n.2.2.1,e4 n.2.2.2.1,e5 n.2.2.1,e5 n.2.2.2.1];cases decide (n.1<1)<;>cases decide (40<n.1)<;>cases decide ((60:Int)<(n.2.1.length:Int))<;>cases n.2.1.any (jor n.1)<;>cases decide (n.2.2.1<0)<;>cases decide (n.1≤n.2.2.1)<;>cases decide (n.2.2.2.1<0)<;>cases decide (n.1≤n.2.2.2.1)<;>rfl
theorem qvj{N:Int}{l:List Int}:q8i N l=true↔(∀x∈l,0≤x∧x<N)∧l.Pairwise (·<·):=by
 unfold q8i;rw[List.all_eq_true];constructor
 ·intro h;have hq:∀i,i<l.length→(0≤l.getD i 0∧l.getD i 0<N)∧(0<i→l.getD (i-1) 0<l.getD i 0):=fun i hi=>by
   have:=h i (List.mem_range.2 hi);unfold jbd at this;simp only[Bool.not_eq_true',Bool.or_eq_false_iff,Bool.and_eq_false_iff,decide_eq_false_iff_not]at this;refine⟨by omega,fun h0=> ?_⟩;rcases this.2 with h1|h1
   ·exact absurd h0 h1
   ·omega
  refine⟨fun x hx=> ?_,List.pairwise_iff_getElem.2 fun i j hi hj hij=> ?_⟩
  ·obtain⟨i,hi,rfl⟩:=qrr 0 hx;exact(hq i hi).1
  ·have key:∀d,∀j,j=i+1+d→j<l.length→l.getD i 0<l.getD j 0:=by
    intro d
    induction d with
    |zero=>intro j hj hl;subst hj;exact(hq (i+1) hl).2 (by omega)
    |succ d ih=>
     intro j hj hl;have h1:=ih (i+1+d) rfl (by omega);have h2:=(hq j hl).2 (by omega);rw[show j-1=i+1+d by omega]at h2;omega
   have:=key (j-i-1) j (by omega) hj;rwa[qla l i 0 hi,qla l j 0 hj]at this
 ·rintro⟨h1,h2⟩ i hi;have hi:=List.mem_range.1 hi;have hb:=h1 _ (bm 0 hi);unfold jbd;simp only[Bool.not_eq_true',Bool.or_eq_false_iff,Bool.and_eq_false_iff,decide_eq_false_iff_not];refine⟨by omega,?_⟩;by_cases h0:0<i
  ·right;have:=List.pairwise_iff_getElem.1 h2 (i-1) i (by omega) hi (by omega);rw[qla l i 0 hi,qla l (i-1) 0 (by omega)];omega
  ·exact .inl h0
theorem j22(n:dj):∃b,qws n=some b∧(b=false→Small n∧(n.2.1.length≤12∨60≤n.2.1.length)∧(n.1≤12∨40<n.1)):=by
 have h1:∀t:ab,qqx t=some (decide ((60:Int)<(t.2.1.length:Int))||decide ((60:Int)<(t.2.2.1.length:Int))||decide ((100:Int)<(t.1.size:Int))):=fun t=>by
  unfold qqx;cases decide ((60:Int)<(t.2.1.length:Int))<;>cases decide ((60:Int)<(t.2.2.1.length:Int))<;>rfl
 have hC:n.2.1.length≤80→bp n.2.1=some (n.2.1.any fun t=>decide ((60:Int)<(t.2.1.length:Int))||decide ((60:Int)<(t.2.2.1.length:Int))||decide ((100:Int)<(t.1.size:Int))):=fun hl=>by
  have hL:mu n.2.1 (n.2.1.length:Int) 0=some (q38 (fun i=>(i:Int)) (zm (fun t:ab=>decide ((60:Int)<(t.2.1.length:Int))||decide ((60:Int)<(t.2.2.1.length:Int))||decide ((100:Int)<(t.1.size:Int))) n.2.1)):=by
   refine kq n.2.1 ab.z (fun t:ab=>decide ((60:Int)<(t.2.1.length:Int))||decide ((60:Int)<(t.2.2.1.length:Int))||decide ((100:Int)<(t.1.size:Int))) (fun i=>(i:Int)) (by omega) (fun i hi=> ?_) ?_
   ·simp(disch:=omega)only[dq,h1,rs];rw[ar];exact q7b
   ·simp(disch:=omega)only[dq,rs]
  unfold bp g9;rw[hL,ao,qbc,ao,qfa]
 have hF:n.2.1.length≤80→(n.2.1.any fun t=>decide ((60:Int)<(t.2.1.length:Int))||decide ((60:Int)<(t.2.2.1.length:Int))||decide ((100:Int)<(t.1.size:Int)))=false→Small n:=fun hl ha=>by
  have key:∀t∈n.2.1,t.2.1.length≤60∧t.2.2.1.length≤60:=fun t ht=>by
   have:=List.any_eq_false.1 ha t ht;simp only[Bool.or_eq_true,decide_eq_true_eq,not_or]at this;omega
  exact⟨by omega,fun t ht=>(key t ht).1,fun t ht=>(key t ht).2⟩
 unfold qws;by_cases c1:(80:Int)<(n.2.1.length:Int)
 ·refine⟨true,?_,fun h=>by cases h⟩;by_cases c2:(12:Int)<n.1<;>by_cases c3:n.1≤40<;>(first|omega|simp(disch:=omega)only[rs])
 ·have hl:n.2.1.length≤80:=by omega
  by_cases c3:(12:Int)<n.1
  ·by_cases c4:n.1≤40
   ·exact⟨true,by simp(disch:=omega)only[rs],fun h=>by cases h⟩
   ·by_cases c2:(12:Int)<(n.2.1.length:Int)
    ·by_cases c5:(n.2.1.length:Int)<60
     ·exact⟨true,by simp(disch:=omega)only[rs],fun h=>by cases h⟩
     ·exact⟨_,by simp(disch:=omega)only[hC hl,rs],fun h=>⟨hF hl h,by omega,by omega⟩⟩
    ·exact⟨_,by simp(disch:=omega)only[hC hl,rs],fun h=>⟨hF hl h,by omega,by omega⟩⟩
  ·by_cases c2:(12:Int)<(n.2.1.length:Int)
   ·by_cases c5:(n.2.1.length:Int)<60
    ·exact⟨true,by simp(disch:=omega)only[rs],fun h=>by cases h⟩
    ·exact⟨_,by simp(disch:=omega)only[hC hl,rs],fun h=>⟨hF hl h,by omega,by omega⟩⟩
   ·exact⟨_,by simp(disch:=omega)only[hC hl,rs],fun h=>⟨hF hl h,by omega,by omega⟩⟩
end Go.Proofs.YtclbndfjhjladaaGreat
