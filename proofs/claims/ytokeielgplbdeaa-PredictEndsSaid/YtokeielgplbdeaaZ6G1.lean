/-
  Freechoice: names, lists of places, nets: the program and the reference reckon alike.
-/
import Derived.Test.YtokeielgplbdeaaZ6Md
import Derived.Test.YtokeielgplbdeaaZ6KE
import Derived.KernelRfl
set_option linter.all false
namespace Go.Proofs.Ytokeielgplbdeaa
open Go.K Go.M
def eqS(a b:ByteArray):Bool:=ByteArray.toList a==ByteArray.toList b
theorem q3g(a b:ByteArray):(ByteArray.toList a==ByteArray.toList b)=eqS a b:=rfl
def qpf(c:Int):Bool:=decide (65≤c)&&decide (c≤90)||decide (97≤c)&&decide (c≤122)
def qac(c:Int):Bool:=qpf c||decide (48≤c)&&decide (c≤57)||decide (c=95)||decide (c=45)||decide (c=46)
abbrev byt(s:ByteArray)(i:Nat):Int:=((ByteArray.data s).getD i 0).toNat
theorem qup(c:Int):w9 c=some (qpf c):=by
 unfold w9 qpf;cases decide ((65:Int)≤c)<;>cases decide (c≤(90:Int))<;>cases decide ((97:Int)≤c)<;>cases decide (c≤(122:Int))<;>rfl
theorem qez(c:Int):yq c=some (qpf c):=by
 unfold yq qpf;cases decide ((65:Int)≤c)<;>cases decide (c≤(90:Int))<;>cases decide ((97:Int)≤c)<;>cases decide (c≤(122:Int))<;>rfl
theorem q33(c:Int):qh8 c=some (qac c):=by
 unfold qh8 qac;rw[qup,iz];cases qpf c<;>cases decide ((48:Int)≤c)<;>cases decide (c≤(57:Int))<;>cases decide (c=(95:Int))<;>cases decide (c=(45:Int))<;>cases decide (c=(46:Int))<;>rfl
def qrr(s:ByteArray):Bool:=decide (1≤s.size)&&decide (s.size≤40)&&qpf (byt s 0)&&(List.range s.size).all fun i=>qac (byt s i)
theorem q4t(s:ByteArray):qab s=some (qrr s):=by
 unfold qab qrr;by_cases h1:(s.size:Int)<1
 ·have:¬1≤s.size:=by omega
  simp(disch:=omega)only[rs];rw[decide_eq_false this];rfl
 ·have h1' :1≤s.size:=by omega
  rw[decide_eq_true h1'];by_cases h2:40<(s.size:Int)
  ·have:¬s.size≤40:=by omega
   simp(disch:=omega)only[rs];rw[decide_eq_false this];rfl
  ·have h2' :s.size≤40:=by omega
   rw[decide_eq_true h2'];have hL:qi1 s (s.size:Int) 0=some (bif (List.range s.size).all (fun i=>qac (byt s i))then .inl ()else .inr false):=by
    refine qb8 (fun i:Nat=>(i:Int)) s.size (bm (by omega)) _ () false ?_ ?_ ?_
    ·intro i hi hp;simp(disch:=omega)only[o5,q33,hp,Bool.not_true,rs];rw[aj]
    ·intro i hi hp;simp(disch:=omega)only[o5,q33,hp,Bool.not_false,rs]
    ·simp(disch:=omega)only[o5,rs]
   simp(disch:=omega)only[qup,hL,rs];cases qpf (byt s 0)with
   |false=>rfl
   |true=>cases(List.range s.size).all (fun i=>qac (byt s i))<;>rfl
theorem qqh(n:Nat)(p:Nat→Bool):(List.range (n+1)).all p=(p 0&&(List.range n).all fun i=>p (i+1)):=by
 rw[List.range_succ_eq_map,List.all_cons,List.all_map];rfl
theorem qxh(s:ByteArray):qex s=some (qrr s):=by
 unfold qex qrr;by_cases h1:(s.size:Int)<1
 ·have:¬1≤s.size:=by omega
  simp(disch:=omega)only[rs];rw[decide_eq_false this];rfl
 ·have h1' :1≤s.size:=by omega
  rw[decide_eq_true h1'];by_cases h2:40<(s.size:Int)
  ·have:¬s.size≤40:=by omega
   simp(disch:=omega)only[rs];rw[decide_eq_false this];rfl
  ·have h2' :s.size≤40:=by omega
   rw[decide_eq_true h2'];have hL:qhj s 1=some (bif (List.range (s.size-1)).all (fun i=>qac (byt s (i+1)))then .inl ()else .inr false):=by
    refine qb8 (fun i:Nat=>((i+1:Nat):Int)) (s.size-1) (bm (by omega)) _ () false ?_ ?_ ?_
    ·intro i hi hp;unfold qac at hp;simp(disch:=omega)only[qx,qez,rs];rw[aj];revert hp;cases qpf (byt s (i+1))<;>cases decide ((48:Int)≤byt s (i+1))<;>cases decide (byt s (i+1)≤(57:Int))<;>cases decide (byt s (i+1)=(95:Int))<;>cases decide (byt s (i+1)=(45:Int))<;>cases decide (byt s (i+1)=(46:Int))<;>intro hp<;>first|rfl|cases hp
    ·intro i hi hp;unfold qac at hp;simp(disch:=omega)only[qx,qez,rs];revert hp;cases qpf (byt s (i+1))<;>cases decide ((48:Int)≤byt s (i+1))<;>cases decide (byt s (i+1)≤(57:Int))<;>cases decide (byt s (i+1)=(95:Int))<;>cases decide (byt s (i+1)=(45:Int))<;>cases decide (byt s (i+1)=(46:Int))<;>intro hp<;>first|rfl|cases hp
    ·have e:s.size-1+1=s.size:=by omega
     rw[e];simp(disch:=omega)only[qx,rs]
   simp(disch:=omega)only[qez,hL,rs];have e:s.size=s.size-1+1:=by omega
   have e2:(List.range s.size).all (fun i=>qac (byt s i))=(qac (byt s 0)&&(List.range (s.size-1)).all fun i=>qac (byt s (i+1))):=by
    conv=>lhs;rw[e]
    exact qqh _ _
   rw[e2];have e3:qpf (byt s 0)=true→qac (byt s 0)=true:=fun h=>by unfold qac;rw[h];rfl
   cases h:qpf (byt s 0)with
   |false=>rfl
   |true=>
    rw[e3 h];cases(List.range (s.size-1)).all (fun i=>qac (byt s (i+1)))<;>rfl
def jk6(l:List Int)(x:Int):Bool:=l.any fun y=>decide (x=y)
theorem qx4(l:List Int)(h:l.length≤1000000)(x:Int):d8 l x=some (jk6 l x):=by
 have hL:t5 l x (l.length:Int) 0=some (qv2 (fun i=>(i:Int)) (km (fun y=>decide (x=y)) l)):=by
  refine rv l 0 (fun y=>decide (x=y)) (fun i=>(i:Int)) (by omega) (fun i hi=> ?_) ?_
  ·simp(disch:=omega)only[jg,rs];rw[aj];cases decide (x=l.getD i 0)<;>rfl
  ·simp(disch:=omega)only[jg,rs]
 unfold d8 pf;rw[hL,iz,qee,iz,qle];rfl
def qkw(N:Int)(l:List Int)(i:Nat):Bool:=decide (l.getD i 0<0)||decide (N≤l.getD i 0)||decide (0<i)&&decide (l.getD i 0≤l.getD (i-1) 0)
def qiv(N:Int)(l:List Int):Bool:=(List.range l.length).all fun i=> !qkw N l i
theorem qmc(N:Int)(ts:List ai)(a b:Int)(l:List Int)(h:l.length≤1000000):qg3 l l (l.length:Int) N ts a b 0=some (bif (List.range l.length).all (fun i=> !qkw N l i)then .inl ()else .inr false):=by
 have hst:∀i:Nat,i<l.length→ko l l (l.length:Int) N ts a b (R:=LR Int Unit Bool) (i:Int) (fun a' =>some (.next a')) (fun e=>some (.done e)) (fun r=>some (.ret r))=some (bif qkw N l i then .ret false else .next ((i+1:Nat):Int)):=fun i hi=>by
  unfold qkw;by_cases h0:0<i
  ·have e:(i:Int)-1=((i-1:Nat):Int):=by omega
   have h0' :(0:Int)<(i:Int):=by omega
   rw[decide_eq_true h0];simp(disch:=omega)only[ko,e,rs];rw[aj];cases decide (l.getD i 0<0)<;>cases decide (N≤l.getD i 0)<;>cases decide (l.getD i 0≤l.getD (i-1) 0)<;>rfl
  ·have h0' :¬(0:Int)<(i:Int):=by omega
   rw[decide_eq_false h0];simp(disch:=omega)only[ko,rs];rw[aj];cases decide (l.getD i 0<0)<;>cases decide (N≤l.getD i 0)<;>rfl
 refine qb8 (fun i:Nat=>(i:Int)) l.length (bm (by omega)) _ () false (fun i hi hp=> ?_) (fun i hi hp=> ?_) ?_
 ·have hb:qkw N l i=false:=by simpa using hp
  exact(hst i hi).trans (by rw[hb];rfl)
 ·have hb:qkw N l i=true:=by simpa using hp
  exact(hst i hi).trans (by rw[hb];rfl)
 ·simp(disch:=omega)only[ko,rs]
theorem qmj(N:Int)(ts:List ai)(a b:Int)(l:List Int)(h:l.length≤1000000):qhk N l 0=some (bif (List.range l.length).all (fun i=> !qkw N l i)then .inl ()else .inr false):=by
 have hst:∀i:Nat,i<l.length→nv N l (R:=LR Int Unit Bool) (i:Int) (fun a' =>some (.next a')) (fun e=>some (.done e)) (fun r=>some (.ret r))=some (bif qkw N l i then .ret false else .next ((i+1:Nat):Int)):=fun i hi=>by
  unfold qkw;by_cases h0:0<i
  ·have e:(i:Int)-1=((i-1:Nat):Int):=by omega
   have h0' :(0:Int)<(i:Int):=by omega
   rw[decide_eq_true h0];simp(disch:=omega)only[nv,e,rs];rw[aj];cases decide (l.getD i 0<0)<;>cases decide (N≤l.getD i 0)<;>cases decide (l.getD i 0≤l.getD (i-1) 0)<;>rfl
  ·have h0' :¬(0:Int)<(i:Int):=by omega
   rw[decide_eq_false h0];simp(disch:=omega)only[nv,rs];rw[aj];cases decide (l.getD i 0<0)<;>cases decide (N≤l.getD i 0)<;>rfl
 refine qb8 (fun i:Nat=>(i:Int)) l.length (bm (by omega)) _ () false (fun i hi hp=> ?_) (fun i hi hp=> ?_) ?_
 ·have hb:qkw N l i=false:=by simpa using hp
  exact(hst i hi).trans (by rw[hb];rfl)
 ·have hb:qkw N l i=true:=by simpa using hp
  exact(hst i hi).trans (by rw[hb];rfl)
 ·simp(disch:=omega)only[nv,rs]
theorem q62{b:Bool}:(lk (bif b then(.inl ():Unit⊕Bool)else .inr false) (fun _=>some true) fun r=>some r)=some b:=by cases b<;>rfl
theorem qv(n:c9)(l:List Int)(h:l.length≤1000000):jp n l=some (qiv n.1 l):=by
 unfold jp qiv;rw[qmc n.1 n.2.1 n.2.2.1 n.2.2.2.1 l h,iz,q62]
theorem qft(N:Int)(l:List Int)(h:l.length≤1000000):pt N l=some (qiv N l):=by
 unfold pt qiv;rw[qmj N [] 0 0 l h,iz,q62]
structure Small (n : c9) : Prop where
 trans : n.2.1.length ≤ 100
 ins : ∀ t ∈ n.2.1, t.2.1.length ≤ 60
 outs : ∀ t ∈ n.2.1, t.2.2.1.length ≤ 60
def qtd(N:Int)(t:ai):Bool:= !eqS t.1 ⟨#[]⟩&& !qrr t.1|| !qiv N t.2.1|| !qiv N t.2.2.1
def de(n:c9):Bool:=decide (1≤n.1)&&decide (n.1≤40)&&decide (n.2.1.length≤60)&& !n.2.1.any (qtd n.1)&&(decide (0≤n.2.2.1)&&decide (n.2.2.1<n.1))&&(decide (0≤n.2.2.2.1)&&decide (n.2.2.2.1<n.1))
theorem qzv(N x:Int):qiv N [x]=(decide (0≤x)&&decide (x<N)):=by
 unfold qiv qkw;rw[Bool.eq_iff_iff];simp
theorem qgg{n:c9}(h:Small n):m3 n=some (de n):=by
 have hL:qi7 n.2.1 (n.2.1.length:Int) n.1 n.2.1 n.2.2.1 n.2.2.2.1 0=some (bif n.2.1.any (qtd n.1)then .inr false else .inl ()):=by
  have hl:=h.trans;refine y7 n.2.1 ai.z (qtd n.1) false (by omega) (fun i hi=> ?_) ?_
  ·have h1:=h.ins _ (az ai.z hi);have h2:=h.outs _ (az ai.z hi);unfold qtd;simp(disch:=omega)only[q3g,tf,q4t,rs];rw[qv _ _ (by omega),qv _ _ (by omega),aj];simp only[iz];cases eqS (n.2.1.getD i ai.z).1 ⟨#[]⟩<;>cases qrr (n.2.1.getD i ai.z).1<;>cases qiv n.1 (n.2.1.getD i ai.z).2.1<;>cases qiv n.1 (n.2.1.getD i ai.z).2.2.1<;>rfl
  ·simp(disch:=omega)only[tf,rs]
 unfold m3 de;rw[hL,qv _ _ (by simp),qv _ _ (by simp),qzv,qzv];have e1:decide (1≤n.1)= !decide (n.1<1):=by rw[Bool.eq_iff_iff];simp
 have e2:decide (n.1≤40)= !decide (40<n.1):=by rw[Bool.eq_iff_iff];simp
 have e3:decide (n.2.1.length≤60)= !decide ((60:Int)<(n.2.1.length:Int)):=by rw[Bool.eq_iff_iff];simp;omega
 rw[e1,e2,e3];cases decide (n.1<1)<;>cases decide (40<n.1)<;>cases decide ((60:Int)<(n.2.1.length:Int))<;>cases n.2.1.any (qtd n.1)<;>cases(decide (0≤n.2.2.1)&&decide (n.2.2.1<n.1))<;>cases(decide (0≤n.2.2.2.1)&&decide (n.2.2.2.1<n.1))<;>rfl
theorem qho{n:c9}(h:Small n):qan n=some (de n):=by
 have hL:qjh n.1 n.2.1 n.2.2.1 n.2.2.2.1 0=some (bif n.2.1.any (qtd n.1)then .inr false else .inl ()):=by
  have hl:=h.trans;refine y7 n.2.1 ai.z (qtd n.1) false (by omega) (fun i hi=> ?_) ?_
  ·have h1:=h.ins _ (az ai.z hi);have h2:=h.outs _ (az ai.z hi);unfold qtd;simp(disch:=omega)only[q3g,zl,qxh,rs];rw[qft _ _ (by omega),qft _ _ (by omega),aj];simp only[iz];cases eqS (n.2.1.getD i ai.z).1 ⟨#[]⟩<;>cases qrr (n.2.1.getD i ai.z).1<;>cases qiv n.1 (n.2.1.getD i ai.z).2.1<;>cases qiv n.1 (n.2.1.getD i ai.z).2.2.1<;>rfl
  ·simp(disch:=omega)only[zl,rs]
 unfold qan de;rw[hL];have e1:decide (1≤n.1)= !decide (n.1<1):=by rw[Bool.eq_iff_iff];simp
 have e2:decide (n.1≤40)= !decide (40<n.1):=by rw[Bool.eq_iff_iff];simp
 have e3:decide (n.2.1.length≤60)= !decide ((60:Int)<(n.2.1.length:Int)):=by rw[Bool.eq_iff_iff];simp;omega
 have e4:∀x:Int,decide (0≤x)= !decide (x<0):=fun x=>by rw[Bool.eq_iff_iff];simp
 have e5:∀x:Int,decide (x<n.1)= !decide (n.1≤x):=fun x=>by rw[Bool.eq_iff_iff];simp
 rw[e1,e2,e3,e4 n.2.2.1,e4 n.2.2.2.1,e5 n.2.2.1,e5 n.2.2.2.1];cases decide (n.1<1)<;>cases decide (40<n.1)<;>cases decide ((60:Int)<(n.2.1.length:Int))<;>cases n.2.1.any (qtd n.1)<;>cases decide (n.2.2.1<0)<;>cases decide (n.1≤n.2.2.1)<;>cases decide (n.2.2.2.1<0)<;>cases decide (n.1≤n.2.2.2.1)<;>rfl
theorem qsv{N:Int}{l:List Int}:qiv N l=true↔(∀x∈l,0≤x∧x<N)∧l.Pairwise (·<·):=by
 unfold qiv;rw[List.all_eq_true];constructor
 ·intro h;have hq:∀i,i<l.length→(0≤l.getD i 0∧l.getD i 0<N)∧(0<i→l.getD (i-1) 0<l.getD i 0):=fun i hi=>by
   have:=h i (List.mem_range.2 hi);unfold qkw at this;simp only[Bool.not_eq_true',Bool.or_eq_false_iff,Bool.and_eq_false_iff,decide_eq_false_iff_not]at this;refine⟨by omega,fun h0=> ?_⟩;rcases this.2 with h1|h1
   ·exact absurd h0 h1
   ·omega
  refine⟨fun x hx=> ?_,List.pairwise_iff_getElem.2 fun i j hi hj hij=> ?_⟩
  ·obtain⟨i,hi,rfl⟩:=j8 0 hx;exact(hq i hi).1
  ·have key:∀d,∀j,j=i+1+d→j<l.length→l.getD i 0<l.getD j 0:=by
    intro d
    induction d with
    |zero=>intro j hj hl;subst hj;exact(hq (i+1) hl).2 (by omega)
    |succ d ih=>
     intro j hj hl;have h1:=ih (i+1+d) rfl (by omega);have h2:=(hq j hl).2 (by omega);rw[show j-1=i+1+d by omega]at h2;omega
   have:=key (j-i-1) j (by omega) hj;rwa[ne l i 0 hi,ne l j 0 hj]at this
 ·rintro⟨h1,h2⟩ i hi;have hi:=List.mem_range.1 hi;have hb:=h1 _ (az 0 hi);unfold qkw;simp only[Bool.not_eq_true',Bool.or_eq_false_iff,Bool.and_eq_false_iff,decide_eq_false_iff_not];refine⟨by omega,?_⟩;by_cases h0:0<i
  ·right;have:=List.pairwise_iff_getElem.1 h2 (i-1) i (by omega) hi (by omega);rw[ne l i 0 hi,ne l (i-1) 0 (by omega)];omega
  ·exact .inl h0
theorem qqb(l:List Int)(h:l.length≤1000000):ea l=some l:=by
 unfold ea jy;simp(disch:=omega)only[List.nil_append,rs]
end Go.Proofs.Ytokeielgplbdeaa
