/-
  Freechoice: names, lists of places, nets: the program and the reference reckon alike.
-/
import Derived.Test.YtdhfhpdadbopkaaGreatZ3Md
import Derived.Test.YtdhfhpdadbopkaaGreatZ3KE
import Derived.KernelRfl
set_option linter.all false
namespace Go.Proofs.YtdhfhpdadbopkaaGreat
open Go.K Go.M
theorem jbw:qk9=some true:=by kernel_rfl
def eqS(a b:ByteArray):Bool:=ByteArray.toList a==ByteArray.toList b
theorem lb(a b:ByteArray):(ByteArray.toList a==ByteArray.toList b)=eqS a b:=rfl
def qx3(c:Int):Bool:=decide (65≤c)&&decide (c≤90)||decide (97≤c)&&decide (c≤122)
def qfr(c:Int):Bool:=qx3 c||decide (48≤c)&&decide (c≤57)||decide (c=95)||decide (c=45)||decide (c=46)
abbrev byt(s:ByteArray)(i:Nat):Int:=((ByteArray.data s).getD i 0).toNat
theorem q5o(c:Int):qb1 c=some (qx3 c):=by
 unfold qb1 qx3;cases decide ((65:Int)≤c)<;>cases decide (c≤(90:Int))<;>cases decide ((97:Int)≤c)<;>cases decide (c≤(122:Int))<;>rfl
theorem qiv(c:Int):yz c=some (qx3 c):=by
 unfold yz qx3;cases decide ((65:Int)≤c)<;>cases decide (c≤(90:Int))<;>cases decide ((97:Int)≤c)<;>cases decide (c≤(122:Int))<;>rfl
theorem jei(c:Int):qnf c=some (qfr c):=by
 unfold qnf qfr;rw[q5o,ah];cases qx3 c<;>cases decide ((48:Int)≤c)<;>cases decide (c≤(57:Int))<;>cases decide (c=(95:Int))<;>cases decide (c=(45:Int))<;>cases decide (c=(46:Int))<;>rfl
def q1b(s:ByteArray):Bool:=decide (1≤s.size)&&decide (s.size≤40)&&qx3 (byt s 0)&&(List.range s.size).all fun i=>qfr (byt s i)
theorem je7(s:ByteArray):qfq s=some (q1b s):=by
 unfold qfq q1b;by_cases h1:(s.size:Int)<1
 ·have:¬1≤s.size:=by omega
  simp(disch:=omega)only[rs];rw[decide_eq_false this];rfl
 ·have h1' :1≤s.size:=by omega
  rw[decide_eq_true h1'];by_cases h2:40<(s.size:Int)
  ·have:¬s.size≤40:=by omega
   simp(disch:=omega)only[rs];rw[decide_eq_false this];rfl
  ·have h2' :s.size≤40:=by omega
   rw[decide_eq_true h2'];have hL:qom s (s.size:Int) 0=some (bif (List.range s.size).all (fun i=>qfr (byt s i))then .inl ()else .inr false):=by
    refine ou (fun i:Nat=>(i:Int)) s.size (cr (by omega)) _ () false ?_ ?_ ?_
    ·intro i hi hp;simp(disch:=omega)only[ry,jei,hp,Bool.not_true,rs];rw[ai]
    ·intro i hi hp;simp(disch:=omega)only[ry,jei,hp,Bool.not_false,rs]
    ·simp(disch:=omega)only[ry,rs]
   simp(disch:=omega)only[q5o,hL,rs];cases qx3 (byt s 0)with
   |false=>rfl
   |true=>cases(List.range s.size).all (fun i=>qfr (byt s i))<;>rfl
theorem qzy(n:Nat)(p:Nat→Bool):(List.range (n+1)).all p=(p 0&&(List.range n).all fun i=>p (i+1)):=by
 rw[List.range_succ_eq_map,List.all_cons,List.all_map];rfl
theorem q8n(s:ByteArray):qdg s=some (q1b s):=by
 unfold qdg q1b;by_cases h1:(s.size:Int)<1
 ·have:¬1≤s.size:=by omega
  simp(disch:=omega)only[rs];rw[decide_eq_false this];rfl
 ·have h1' :1≤s.size:=by omega
  rw[decide_eq_true h1'];by_cases h2:40<(s.size:Int)
  ·have:¬s.size≤40:=by omega
   simp(disch:=omega)only[rs];rw[decide_eq_false this];rfl
  ·have h2' :s.size≤40:=by omega
   rw[decide_eq_true h2'];have hL:qme s 1=some (bif (List.range (s.size-1)).all (fun i=>qfr (byt s (i+1)))then .inl ()else .inr false):=by
    refine ou (fun i:Nat=>((i+1:Nat):Int)) (s.size-1) (cr (by omega)) _ () false ?_ ?_ ?_
    ·intro i hi hp;unfold qfr at hp;simp(disch:=omega)only[qn,qiv,rs];rw[ai];revert hp;cases qx3 (byt s (i+1))<;>cases decide ((48:Int)≤byt s (i+1))<;>cases decide (byt s (i+1)≤(57:Int))<;>cases decide (byt s (i+1)=(95:Int))<;>cases decide (byt s (i+1)=(45:Int))<;>cases decide (byt s (i+1)=(46:Int))<;>intro hp<;>first|rfl|cases hp
    ·intro i hi hp;unfold qfr at hp;simp(disch:=omega)only[qn,qiv,rs];revert hp;cases qx3 (byt s (i+1))<;>cases decide ((48:Int)≤byt s (i+1))<;>cases decide (byt s (i+1)≤(57:Int))<;>cases decide (byt s (i+1)=(95:Int))<;>cases decide (byt s (i+1)=(45:Int))<;>cases decide (byt s (i+1)=(46:Int))<;>intro hp<;>first|rfl|cases hp
    ·have e:s.size-1+1=s.size:=by omega
     rw[e];simp(disch:=omega)only[qn,rs]
   simp(disch:=omega)only[qiv,hL,rs];have e:s.size=s.size-1+1:=by omega
   have e2:(List.range s.size).all (fun i=>qfr (byt s i))=(qfr (byt s 0)&&(List.range (s.size-1)).all fun i=>qfr (byt s (i+1))):=by
    conv=>lhs;rw[e]
    exact qzy _ _
   rw[e2];have e3:qx3 (byt s 0)=true→qfr (byt s 0)=true:=fun h=>by unfold qfr;rw[h];rfl
   cases h:qx3 (byt s 0)with
   |false=>rfl
   |true=>
    rw[e3 h];cases(List.range (s.size-1)).all (fun i=>qfr (byt s (i+1)))<;>rfl
def ju(l:List Int)(x:Int):Bool:=l.any fun y=>decide (x=y)
theorem qd6{l:List Int}{x:Int}:ju l x=true↔x∈l:=by
 unfold ju;rw[List.any_eq_true];constructor
 ·rintro⟨y,hy,h⟩;rw[of_decide_eq_true h];exact hy
 ·intro h;exact⟨x,h,decide_eq_true rfl⟩
theorem qru{l:List Int}{x:Int}:ju l x=false↔x∉l:=by
 rw[←qd6];cases ju l x<;>simp
theorem qwj(l:List Int)(h:l.length≤1000000)(x:Int):gu l x=some (ju l x):=by
 have hL:zt l x (l.length:Int) 0=some (qq8 (fun i=>(i:Int)) (nj (fun y=>decide (x=y)) l)):=by
  refine l9 l 0 (fun y=>decide (x=y)) (fun i=>(i:Int)) (by omega) (fun i hi=> ?_) ?_
  ·simp(disch:=omega)only[kb,rs];rw[ai];cases decide (x=l.getD i 0)<;>rfl
  ·simp(disch:=omega)only[kb,rs]
 unfold gu ss;rw[hL,ah,yc,ah,qdb];rfl
theorem qdw(l:List Int)(h:l.length≤1000000)(x:Int):qt l x=some (ju l x):=by
 have hL:qxc l x 0=some (bif l.any (fun y=>decide (y=x))then .inr true else .inl ()):=by
  refine kc l 0 (fun y=>decide (y=x)) true (by omega) (fun i hi=> ?_) ?_
  ·simp(disch:=omega)only[qdh,rs];rw[ai];cases decide (l.getD i 0=x)<;>rfl
  ·simp(disch:=omega)only[qdh,rs]
 unfold qt ju;have e:(l.any fun y=>decide (x=y))=l.any fun y=>decide (y=x):=jbv fun y _=>decide_eq_decide.2 ⟨Eq.symm,Eq.symm⟩
 rw[hL,ah,e];cases l.any (fun y=>decide (y=x))<;>rfl
def qq1(N:Int)(l:List Int)(i:Nat):Bool:=decide (l.getD i 0<0)||decide (N≤l.getD i 0)||decide (0<i)&&decide (l.getD i 0≤l.getD (i-1) 0)
def qog(N:Int)(l:List Int):Bool:=(List.range l.length).all fun i=> !qq1 N l i
theorem qsh(N:Int)(ts:List af)(a b:Int)(l:List Int)(h:l.length≤1000000):ql5 l l (l.length:Int) N ts a b 0=some (bif (List.range l.length).all (fun i=> !qq1 N l i)then .inl ()else .inr false):=by
 have hst:∀i:Nat,i<l.length→ng l l (l.length:Int) N ts a b (R:=LR Int Unit Bool) (i:Int) (fun a' =>some (.next a')) (fun e=>some (.done e)) (fun r=>some (.ret r))=some (bif qq1 N l i then .ret false else .next ((i+1:Nat):Int)):=fun i hi=>by
  unfold qq1;by_cases h0:0<i
  ·have e:(i:Int)-1=((i-1:Nat):Int):=by omega
   have h0' :(0:Int)<(i:Int):=by omega
   rw[decide_eq_true h0];simp(disch:=omega)only[ng,e,rs];rw[ai];cases decide (l.getD i 0<0)<;>cases decide (N≤l.getD i 0)<;>cases decide (l.getD i 0≤l.getD (i-1) 0)<;>rfl
  ·have h0' :¬(0:Int)<(i:Int):=by omega
   rw[decide_eq_false h0];simp(disch:=omega)only[ng,rs];rw[ai];cases decide (l.getD i 0<0)<;>cases decide (N≤l.getD i 0)<;>rfl
 refine ou (fun i:Nat=>(i:Int)) l.length (cr (by omega)) _ () false (fun i hi hp=> ?_) (fun i hi hp=> ?_) ?_
 ·have hb:qq1 N l i=false:=by simpa using hp
  exact(hst i hi).trans (by rw[hb];rfl)
 ·have hb:qq1 N l i=true:=by simpa using hp
  exact(hst i hi).trans (by rw[hb];rfl)
 ·simp(disch:=omega)only[ng,rs]
theorem qsz(N:Int)(ts:List af)(a b:Int)(l:List Int)(h:l.length≤1000000):qmq N l 0=some (bif (List.range l.length).all (fun i=> !qq1 N l i)then .inl ()else .inr false):=by
 have hst:∀i:Nat,i<l.length→nh N l (R:=LR Int Unit Bool) (i:Int) (fun a' =>some (.next a')) (fun e=>some (.done e)) (fun r=>some (.ret r))=some (bif qq1 N l i then .ret false else .next ((i+1:Nat):Int)):=fun i hi=>by
  unfold qq1;by_cases h0:0<i
  ·have e:(i:Int)-1=((i-1:Nat):Int):=by omega
   have h0' :(0:Int)<(i:Int):=by omega
   rw[decide_eq_true h0];simp(disch:=omega)only[nh,e,rs];rw[ai];cases decide (l.getD i 0<0)<;>cases decide (N≤l.getD i 0)<;>cases decide (l.getD i 0≤l.getD (i-1) 0)<;>rfl
  ·have h0' :¬(0:Int)<(i:Int):=by omega
   rw[decide_eq_false h0];simp(disch:=omega)only[nh,rs];rw[ai];cases decide (l.getD i 0<0)<;>cases decide (N≤l.getD i 0)<;>rfl
 refine ou (fun i:Nat=>(i:Int)) l.length (cr (by omega)) _ () false (fun i hi hp=> ?_) (fun i hi hp=> ?_) ?_
 ·have hb:qq1 N l i=false:=by simpa using hp
  exact(hst i hi).trans (by rw[hb];rfl)
 ·have hb:qq1 N l i=true:=by simpa using hp
  exact(hst i hi).trans (by rw[hb];rfl)
 ·simp(disch:=omega)only[nh,rs]
theorem jg9{b:Bool}:(lk (bif b then(.inl ():Unit⊕Bool)else .inr false) (fun _=>some true) fun r=>some r)=some b:=by cases b<;>rfl
theorem wc(n:a7)(l:List Int)(h:l.length≤1000000):lf n l=some (qog n.1 l):=by
 unfold lf qog;rw[qsh n.1 n.2.1 n.2.2.1 n.2.2.2.1 l h,ah,jg9]
theorem qj3(N:Int)(l:List Int)(h:l.length≤1000000):qa N l=some (qog N l):=by
 unfold qa qog;rw[qsz N [] 0 0 l h,ah,jg9]
structure Small (n : a7) : Prop where
 trans : n.2.1.length ≤ 100
 ins : ∀ t ∈ n.2.1, t.2.1.length ≤ 60
 outs : ∀ t ∈ n.2.1, t.2.2.1.length ≤ 60
def qz0(N:Int)(t:af):Bool:= !eqS t.1 ⟨#[]⟩&& !q1b t.1|| !qog N t.2.1|| !qog N t.2.2.1
def bu(n:a7):Bool:=decide (1≤n.1)&&decide (n.1≤40)&&decide (n.2.1.length≤60)&& !n.2.1.any (qz0 n.1)&&(decide (0≤n.2.2.1)&&decide (n.2.2.1<n.1))&&(decide (0≤n.2.2.2.1)&&decide (n.2.2.2.1<n.1))
theorem jbg(N x:Int):qog N [x]=(decide (0≤x)&&decide (x<N)):=by
 unfold qog qq1;rw[Bool.eq_iff_iff];simp
theorem qqx{n:a7}(h:Small n):r0 n=some (bu n):=by
 have hL:qos n.2.1 (n.2.1.length:Int) n.1 n.2.1 n.2.2.1 n.2.2.2.1 0=some (bif n.2.1.any (qz0 n.1)then .inr false else .inl ()):=by
  have hl:=h.trans;refine kc n.2.1 af.z (qz0 n.1) false (by omega) (fun i hi=> ?_) ?_
  ·have h1:=h.ins _ (au af.z hi);have h2:=h.outs _ (au af.z hi);unfold qz0;simp(disch:=omega)only[lb,yq,je7,rs];rw[wc _ _ (by omega),wc _ _ (by omega),ai];simp only[ah];cases eqS (n.2.1.getD i af.z).1 ⟨#[]⟩<;>cases q1b (n.2.1.getD i af.z).1<;>cases qog n.1 (n.2.1.getD i af.z).2.1<;>cases qog n.1 (n.2.1.getD i af.z).2.2.1<;>rfl
  ·simp(disch:=omega)only[yq,rs]
 unfold r0 bu;rw[hL,wc _ _ (by simp),wc _ _ (by simp),jbg,jbg];have e1:decide (1≤n.1)= !decide (n.1<1):=by rw[Bool.eq_iff_iff];simp
 have e2:decide (n.1≤40)= !decide (40<n.1):=by rw[Bool.eq_iff_iff];simp
 have e3:decide (n.2.1.length≤60)= !decide ((60:Int)<(n.2.1.length:Int)):=by rw[Bool.eq_iff_iff];simp;omega
 rw[e1,e2,e3];cases decide (n.1<1)<;>cases decide (40<n.1)<;>cases decide ((60:Int)<(n.2.1.length:Int))<;>cases n.2.1.any (qz0 n.1)<;>cases(decide (0≤n.2.2.1)&&decide (n.2.2.1<n.1))<;>cases(decide (0≤n.2.2.2.1)&&decide (n.2.2.2.1<n.1))<;>rfl
theorem qb4{n:a7}(h:Small n):sc n=some (bu n):=by
 have hL:qo2 n.1 n.2.1 n.2.2.1 n.2.2.2.1 0=some (bif n.2.1.any (qz0 n.1)then .inr false else .inl ()):=by
  have hl:=h.trans;refine kc n.2.1 af.z (qz0 n.1) false (by omega) (fun i hi=> ?_) ?_
  ·have h1:=h.ins _ (au af.z hi);have h2:=h.outs _ (au af.z hi);unfold qz0;simp(disch:=omega)only[lb,y6,q8n,rs];rw[qj3 _ _ (by omega),qj3 _ _ (by omega),ai];simp only[ah];cases eqS (n.2.1.getD i af.z).1 ⟨#[]⟩<;>cases q1b (n.2.1.getD i af.z).1<;>cases qog n.1 (n.2.1.getD i af.z).2.1<;>cases qog n.1 (n.2.1.getD i af.z).2.2.1<;>rfl
  ·simp(disch:=omega)only[y6,rs]
 unfold sc bu;rw[hL];have e1:decide (1≤n.1)= !decide (n.1<1):=by rw[Bool.eq_iff_iff];simp
 have e2:decide (n.1≤40)= !decide (40<n.1):=by rw[Bool.eq_iff_iff];simp
 have e3:decide (n.2.1.length≤60)= !decide ((60:Int)<(n.2.1.length:Int)):=by rw[Bool.eq_iff_iff];simp;omega
 have e4:∀x:Int,decide (0≤x)= !decide (x<0):=fun x=>by rw[Bool.eq_iff_iff];simp
 have e5:∀x:Int,decide (x<n.1)= !decide (n.1≤x):=fun x=>by rw[Bool.eq_iff_iff];simp
 rw[e1,e2,e3,e4 n.2.2.1,e4 n.2.2.2.1,e5 n.2.2.1,e5 n.2.2.2.1];cases decide (n.1<1)<;>cases decide (40<n.1)<;>cases decide ((60:Int)<(n.2.1.length:Int))<;>cases n.2.1.any (qz0 n.1)<;>cases decide (n.2.2.1<0)<;>cases decide (n.1≤n.2.2.1)<;>cases decide (n.2.2.2.1<0)<;>cases decide (n.1≤n.2.2.2.1)<;>rfl
theorem qm0{N:Int}{l:List Int}:qog N l=true↔(∀x∈l,0≤x∧x<N)∧l.Pairwise (·<·):=by
 unfold qog;rw[List.all_eq_true];constructor
 ·intro h;have hq:∀i,i<l.length→(0≤l.getD i 0∧l.getD i 0<N)∧(0<i→l.getD (i-1) 0<l.getD i 0):=fun i hi=>by
   have:=h i (List.mem_range.2 hi);unfold qq1 at this;simp only[Bool.not_eq_true',Bool.or_eq_false_iff,Bool.and_eq_false_iff,decide_eq_false_iff_not]at this;refine⟨by omega,fun h0=> ?_⟩;rcases this.2 with h1|h1
   ·exact absurd h0 h1
   ·omega
  refine⟨fun x hx=> ?_,List.pairwise_iff_getElem.2 fun i j hi hj hij=> ?_⟩
  ·obtain⟨i,hi,rfl⟩:=ov 0 hx;exact(hq i hi).1
  ·have key:∀d,∀j,j=i+1+d→j<l.length→l.getD i 0<l.getD j 0:=by
    intro d
    induction d with
    |zero=>intro j hj hl;subst hj;exact(hq (i+1) hl).2 (by omega)
    |succ d ih=>
     intro j hj hl;have h1:=ih (i+1+d) rfl (by omega);have h2:=(hq j hl).2 (by omega);rw[show j-1=i+1+d by omega]at h2;omega
   have:=key (j-i-1) j (by omega) hj;rwa[ld l i 0 hi,ld l j 0 hj]at this
 ·rintro⟨h1,h2⟩ i hi;have hi:=List.mem_range.1 hi;have hb:=h1 _ (au 0 hi);unfold qq1;simp only[Bool.not_eq_true',Bool.or_eq_false_iff,Bool.and_eq_false_iff,decide_eq_false_iff_not];refine⟨by omega,?_⟩;by_cases h0:0<i
  ·right;have:=List.pairwise_iff_getElem.1 h2 (i-1) i (by omega) hi (by omega);rw[ld l i 0 hi,ld l (i-1) 0 (by omega)];omega
  ·exact .inl h0
theorem qdv(l:List Int)(h:l.length≤1000000):cm l=some l:=by
 unfold cm lh;simp(disch:=omega)only[List.nil_append,rs]
theorem wz(a b:List Int)(ha:a.length≤1000000):jm a b=some (decide (a=b)):=by
 unfold jm;by_cases hl:a.length=b.length
 ·rw[qm7 (by simp[hl])];have hloop:qjx a b 0=some (bif (List.range a.length).all (fun i=>decide (a.getD i 0=b.getD i 0))then .inl ()else .inr false):=by
   refine ou (fun i:Nat=>(i:Int)) a.length (cr (by omega)) _ () false ?_ ?_ ?_
   ·intro i hi hp;have hp' :a.getD i 0=b.getD i 0:=of_decide_eq_true hp;simp(disch:=omega)only[oz,rs];rw[ai]
   ·intro i hi hp;have hp' :a.getD i 0≠b.getD i 0:=of_decide_eq_false hp;simp(disch:=omega)only[oz,rs]
   ·simp(disch:=omega)only[oz,rs]
  rw[hloop,ah];have hall:(List.range a.length).all (fun i=>decide (a.getD i 0=b.getD i 0))=decide (a=b):=by
   rw[Bool.eq_iff_iff,List.all_eq_true,decide_eq_true_iff];constructor
   ·intro h;refine List.ext_getElem hl fun i h1 h2=> ?_
    have:=of_decide_eq_true (h i (List.mem_range.2 h1));rw[ld a i 0 h1,ld b i 0 h2]at this;exact this
   ·rintro rfl i _;simp
  rw[hall];cases decide (a=b)<;>rfl
 ·have:¬a=b:=fun h=>hl (by rw[h])
  rw[qm8 (by simp;omega),decide_eq_false this]
end Go.Proofs.YtdhfhpdadbopkaaGreat
