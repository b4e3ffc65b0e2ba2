/-
  Freechoice: names, lists of places, nets: the program and the reference reckon alike.
-/
import Derived.Test.YtclbndfjhjladaaGreatZ6Md
import Derived.Test.YtclbndfjhjladaaGreatZ6KE
import Derived.KernelRfl
set_option linter.all false
namespace Go.Proofs.YtclbndfjhjladaaGreat
open Go.K Go.M
theorem jtg:q2c=some true:=by kernel_rfl
def eqS(a b:ByteArray):Bool:=ByteArray.toList a==ByteArray.toList b
theorem jvt(a b:ByteArray):(ByteArray.toList a==ByteArray.toList b)=eqS a b:=rfl
def jgh(c:Int):Bool:=decide (65≤c)&&decide (c≤90)||decide (97≤c)&&decide (c≤122)
def qs1(c:Int):Bool:=jgh c||decide (48≤c)&&decide (c≤57)||decide (c=95)||decide (c=45)||decide (c=46)
abbrev byt(s:ByteArray)(i:Nat):Int:=((ByteArray.data s).getD i 0).toNat
theorem jn5(c:Int):qox c=some (jgh c):=by
 unfold qox jgh;cases decide ((65:Int)≤c)<;>cases decide (c≤(90:Int))<;>cases decide ((97:Int)≤c)<;>cases decide (c≤(122:Int))<;>rfl
theorem qyl(c:Int):qi5 c=some (jgh c):=by
 unfold qi5 jgh;cases decide ((65:Int)≤c)<;>cases decide (c≤(90:Int))<;>cases decide ((97:Int)≤c)<;>cases decide (c≤(122:Int))<;>rfl
theorem jv7(c:Int):q4i c=some (qs1 c):=by
 unfold q4i qs1;rw[jn5,ag];cases jgh c<;>cases decide ((48:Int)≤c)<;>cases decide (c≤(57:Int))<;>cases decide (c=(95:Int))<;>cases decide (c=(45:Int))<;>cases decide (c=(46:Int))<;>rfl
def jkp(s:ByteArray):Bool:=decide (1≤s.size)&&decide (s.size≤40)&&jgh (byt s 0)&&(List.range s.size).all fun i=>qs1 (byt s i)
theorem jws(s:ByteArray):qs0 s=some (jkp s):=by
 unfold qs0 jkp;by_cases h1:(s.size:Int)<1
 ·have:¬1≤s.size:=by omega
  simp(disch:=omega)only[ba,aj,ai,ar,ax,bc,a8,am,a7,al,az,ak,a9,ao,aq,af,ae,ag,au,ay,Int.toNat_natCast,decide_true];rw[decide_eq_false this];rfl
 ·have h1' :1≤s.size:=by omega
  rw[decide_eq_true h1'];by_cases h2:40<(s.size:Int)
  ·have:¬s.size≤40:=by omega
   simp(disch:=omega)only[ba,aj,ai,ar,ax,bc,a8,am,a7,al,az,ak,a9,ao,aq,af,ae,ag,au,ay,Int.toNat_natCast,decide_true];rw[decide_eq_false this];rfl
  ·have h2' :s.size≤40:=by omega
   rw[decide_eq_true h2'];have hL:q5k s (s.size:Int) 0=some (bif (List.range s.size).all (fun i=>qs1 (byt s i))then .inl ()else .inr false):=by
    refine z7 (fun i:Nat=>(i:Int)) s.size (ic (by omega)) _ () false ?_ ?_ ?_
    ·intro i hi hp;simp(disch:=omega)only[qb3,jv7,hp,Bool.not_true,ba,aj,ai,ar,ax,bc,a8,am,a7,al,az,ak,a9,ao,aq,af,ae,ag,au,ay,Int.toNat_natCast,decide_true];rw[bq]
    ·intro i hi hp;simp(disch:=omega)only[qb3,jv7,hp,Bool.not_false,ba,aj,ai,ar,ax,bc,a8,am,a7,al,az,ak,a9,ao,aq,af,ae,ag,au,ay,Int.toNat_natCast,decide_true]
    ·simp(disch:=omega)only[qb3,ba,aj,ai,ar,ax,bc,a8,am,a7,al,az,ak,a9,ao,aq,af,ae,ag,au,ay,Int.toNat_natCast,decide_true]
   simp(disch:=omega)only[jn5,hL,ba,aj,ai,ar,ax,bc,a8,am,a7,al,az,ak,a9,ao,aq,af,ae,ag,au,ay,Int.toNat_natCast,decide_true];cases jgh (byt s 0)with
   |false=>rfl
   |true=>cases(List.range s.size).all (fun i=>qs1 (byt s i))<;>rfl
theorem jit(n:Nat)(p:Nat→Bool):(List.range (n+1)).all p=(p 0&&(List.range n).all fun i=>p (i+1)):=by
 rw[List.range_succ_eq_map,List.all_cons,List.all_map];rfl
theorem jqc(s:ByteArray):qqz s=some (jkp s):=by
 unfold qqz jkp;by_cases h1:(s.size:Int)<1
 ·have:¬1≤s.size:=by omega
  simp(disch:=omega)only[ba,aj,ai,ar,ax,bc,a8,am,a7,al,az,ak,a9,ao,aq,af,ae,ag,au,ay,Int.toNat_natCast,decide_true];rw[decide_eq_false this];rfl
 ·have h1' :1≤s.size:=by omega
  rw[decide_eq_true h1'];by_cases h2:40<(s.size:Int)
  ·have:¬s.size≤40:=by omega
   simp(disch:=omega)only[ba,aj,ai,ar,ax,bc,a8,am,a7,al,az,ak,a9,ao,aq,af,ae,ag,au,ay,Int.toNat_natCast,decide_true];rw[decide_eq_false this];rfl
  ·have h2' :s.size≤40:=by omega
   rw[decide_eq_true h2'];have hL:q2x s 1=some (bif (List.range (s.size-1)).all (fun i=>qs1 (byt s (i+1)))then .inl ()else .inr false):=by
    refine z7 (fun i:Nat=>((i+1:Nat):Int)) (s.size-1) (ic (by omega)) _ () false ?_ ?_ ?_
    ·intro i hi hp;unfold qs1 at hp;simp(disch:=omega)only[z8,qyl,ba,aj,ai,ar,ax,bc,a8,am,a7,al,az,ak,a9,ao,aq,af,ae,ag,au,ay,Int.toNat_natCast,decide_true];rw[bq];revert hp;cases jgh (byt s (i+1))<;>cases decide ((48:Int)≤byt s (i+1))<;>cases decide (byt s (i+1)≤(57:Int))<;>cases decide (byt s (i+1)=(95:Int))<;>cases decide (byt s (i+1)=(45:Int))<;>cases decide (byt s (i+1)=(46:Int))<;>intro hp<;>first|rfl|cases hp
    ·intro i hi hp;unfold qs1 at hp;simp(disch:=omega)only[z8,qyl,ba,aj,ai,ar,ax,bc,a8,am,a7,al,az,ak,a9,ao,aq,af,ae,ag,au,ay,Int.toNat_natCast,decide_true];revert hp;cases jgh (byt s (i+1))<;>cases decide ((48:Int)≤byt s (i+1))<;>cases decide (byt s (i+1)≤(57:Int))<;>cases decide (byt s (i+1)=(95:Int))<;>cases decide (byt s (i+1)=(45:Int))<;>cases decide (byt s (i+1)=(46:Int))<;>intro hp<;>first|rfl|cases hp
    ·have e:s.size-1+1=s.size:=by omega
     rw[e];simp(disch:=omega)only[z8,ba,aj,ai,ar,ax,bc,a8,am,a7,al,az,ak,a9,ao,aq,af,ae,ag,au,ay,Int.toNat_natCast,decide_true]
   simp(disch:=omega)only[qyl,hL,ba,aj,ai,ar,ax,bc,a8,am,a7,al,az,ak,a9,ao,aq,af,ae,ag,au,ay,Int.toNat_natCast,decide_true];have e:s.size=s.size-1+1:=by omega
   have e2:(List.range s.size).all (fun i=>qs1 (byt s i))=(qs1 (byt s 0)&&(List.range (s.size-1)).all fun i=>qs1 (byt s (i+1))):=by
    conv=>lhs;rw[e]
    exact jit _ _
   rw[e2];have e3:jgh (byt s 0)=true→qs1 (byt s 0)=true:=fun h=>by unfold qs1;rw[h];rfl
   cases h:jgh (byt s 0)with
   |false=>rfl
   |true=>
    rw[e3 h];cases(List.range (s.size-1)).all (fun i=>qs1 (byt s (i+1)))<;>rfl
def ls(l:List Int)(x:Int):Bool:=l.any fun y=>decide (x=y)
theorem va{l:List Int}{x:Int}:ls l x=true↔x∈l:=by
 unfold ls;rw[List.any_eq_true];constructor
 ·rintro⟨y,hy,h⟩;rw[of_decide_eq_true h];exact hy
 ·intro h;exact⟨x,h,decide_eq_true rfl⟩
theorem jzx{l:List Int}{x:Int}:ls l x=false↔x∉l:=by
 rw[←va];cases ls l x<;>simp
theorem qsg(l:List Int)(h:l.length≤1000000)(x:Int):ce l x=some (ls l x):=by
 have hL:qj3 l x (l.length:Int) 0=some (q6l (fun i=>(i:Int)) (qas (fun y=>decide (x=y)) l)):=by
  refine ny l 0 (fun y=>decide (x=y)) (fun i=>(i:Int)) (by omega) (fun i hi=> ?_) ?_
  ·simp(disch:=omega)only[n5,ba,aj,ai,ar,ax,bc,a8,am,a7,al,az,ak,a9,ao,aq,af,ae,ag,au,ay,Int.toNat_natCast,decide_true];rw[bq];cases decide (x=l.getD i 0)<;>rfl
  ·simp(disch:=omega)only[n5,ba,aj,ai,ar,ax,bc,a8,am,a7,al,az,ak,a9,ao,aq,af,ae,ag,au,ay,Int.toNat_natCast,decide_true]
 unfold ce qb7;rw[hL,ag,qiv,ag,qny];rfl
theorem joq(l:List Int)(h:l.length≤1000000)(x:Int):qm1 l x=some (ls l x):=by
 have hL:jfh l x 0=some (bif l.any (fun y=>decide (y=x))then .inr true else .inl ()):=by
  refine qb2 l 0 (fun y=>decide (y=x)) true (by omega) (fun i hi=> ?_) ?_
  ·simp(disch:=omega)only[qq0,ba,aj,ai,ar,ax,bc,a8,am,a7,al,az,ak,a9,ao,aq,af,ae,ag,au,ay,Int.toNat_natCast,decide_true];rw[bq];cases decide (l.getD i 0=x)<;>rfl
  ·simp(disch:=omega)only[qq0,ba,aj,ai,ar,ax,bc,a8,am,a7,al,az,ak,a9,ao,aq,af,ae,ag,au,ay,Int.toNat_natCast,decide_true]
 unfold qm1 ls;have e:(l.any fun y=>decide (x=y))=l.any fun y=>decide (y=x):=jtf fun y _=>decide_eq_decide.2 ⟨Eq.symm,Eq.symm⟩
 rw[hL,ag,e];cases l.any (fun y=>decide (y=x))<;>rfl
def q7y(N:Int)(l:List Int)(i:Nat):Bool:=decide (l.getD i 0<0)||decide (N≤l.getD i 0)||decide (0<i)&&decide (l.getD i 0≤l.getD (i-1) 0)
def q45(N:Int)(l:List Int):Bool:=(List.range l.length).all fun i=> !q7y N l i
theorem q9v(N:Int)(ts:List ab)(a b:Int)(l:List Int)(h:l.length≤1000000):q2s l l (l.length:Int) N ts a b 0=some (bif (List.range l.length).all (fun i=> !q7y N l i)then .inl ()else .inr false):=by
 have hst:∀i:Nat,i<l.length→rm l l (l.length:Int) N ts a b (R:=LR Int Unit Bool) (i:Int) (fun a' =>some (.next a')) (fun e=>some (.done e)) (fun r=>some (.ret r))=some (bif q7y N l i then .ret false else .next ((i+1:Nat):Int)):=fun i hi=>by
  unfold q7y;by_cases h0:0<i
  ·have e:(i:Int)-1=((i-1:Nat):Int):=by omega
   have h0' :(0:Int)<(i:Int):=by omega
   rw[decide_eq_true h0];simp(disch:=omega)only[rm,e,ba,aj,ai,ar,ax,bc,a8,am,a7,al,az,ak,a9,ao,aq,af,ae,ag,au,ay,Int.toNat_natCast,decide_true];rw[bq];cases decide (l.getD i 0<0)<;>cases decide (N≤l.getD i 0)<;>cases decide (l.getD i 0≤l.getD (i-1) 0)<;>rfl
  ·have h0' :¬(0:Int)<(i:Int):=by omega
   rw[decide_eq_false h0];simp(disch:=omega)only[rm,ba,aj,ai,ar,ax,bc,a8,am,a7,al,az,ak,a9,ao,aq,af,ae,ag,au,ay,Int.toNat_natCast,decide_true];rw[bq];cases decide (l.getD i 0<0)<;>cases decide (N≤l.getD i 0)<;>rfl
 refine z7 (fun i:Nat=>(i:Int)) l.length (ic (by omega)) _ () false (fun i hi hp=> ?_) (fun i hi hp=> ?_) ?_
 ·have hb:q7y N l i=false:=by simpa using hp
  exact(hst i hi).trans (by rw[hb];rfl)
 ·have hb:q7y N l i=true:=by simpa using hp
  exact(hst i hi).trans (by rw[hb];rfl)
 ·simp(disch:=omega)only[rm,ba,aj,ai,ar,ax,bc,a8,am,a7,al,az,ak,a9,ao,aq,af,ae,ag,au,ay,Int.toNat_natCast,decide_true]
theorem q90(N:Int)(ts:List ab)(a b:Int)(l:List Int)(h:l.length≤1000000):q29 N l 0=some (bif (List.range l.length).all (fun i=> !q7y N l i)then .inl ()else .inr false):=by
 have hst:∀i:Nat,i<l.length→ro N l (R:=LR Int Unit Bool) (i:Int) (fun a' =>some (.next a')) (fun e=>some (.done e)) (fun r=>some (.ret r))=some (bif q7y N l i then .ret false else .next ((i+1:Nat):Int)):=fun i hi=>by
  unfold q7y;by_cases h0:0<i
  ·have e:(i:Int)-1=((i-1:Nat):Int):=by omega
   have h0' :(0:Int)<(i:Int):=by omega
   rw[decide_eq_true h0];simp(disch:=omega)only[ro,e,ba,aj,ai,ar,ax,bc,a8,am,a7,al,az,ak,a9,ao,aq,af,ae,ag,au,ay,Int.toNat_natCast,decide_true];rw[bq];cases decide (l.getD i 0<0)<;>cases decide (N≤l.getD i 0)<;>cases decide (l.getD i 0≤l.getD (i-1) 0)<;>rfl
  ·have h0' :¬(0:Int)<(i:Int):=by omega
   rw[decide_eq_false h0];simp(disch:=omega)only[ro,ba,aj,ai,ar,ax,bc,a8,am,a7,al,az,ak,a9,ao,aq,af,ae,ag,au,ay,Int.toNat_natCast,decide_true];rw[bq];cases decide (l.getD i 0<0)<;>cases decide (N≤l.getD i 0)<;>rfl
 refine z7 (fun i:Nat=>(i:Int)) l.length (ic (by omega)) _ () false (fun i hi hp=> ?_) (fun i hi hp=> ?_) ?_
 ·have hb:q7y N l i=false:=by simpa using hp
  exact(hst i hi).trans (by rw[hb];rfl)
 ·have hb:q7y N l i=true:=by simpa using hp
  exact(hst i hi).trans (by rw[hb];rfl)
 ·simp(disch:=omega)only[ro,ba,aj,ai,ar,ax,bc,a8,am,a7,al,az,ak,a9,ao,aq,af,ae,ag,au,ay,Int.toNat_natCast,decide_true]
theorem jyv{b:Bool}:(lk (bif b then(.inl ():Unit⊕Bool)else .inr false) (fun _=>some true) fun r=>some r)=some b:=by cases b<;>rfl
theorem qe8(n:ff)(l:List Int)(h:l.length≤1000000):pe n l=some (q45 n.1 l):=by
 unfold pe q45;rw[q9v n.1 n.2.1 n.2.2.1 n.2.2.2.1 l h,ag,jyv]
theorem qzy(N:Int)(l:List Int)(h:l.length≤1000000):zg N l=some (q45 N l):=by
 unfold zg q45;rw[q90 N [] 0 0 l h,ag,jyv]
structure Small (n : ff) : Prop where
 trans : n.2.1.length ≤ 100
 ins : ∀ t ∈ n.2.1, t.2.1.length ≤ 60
 outs : ∀ t ∈ n.2.1, t.2.2.1.length ≤ 60
def jmc(N:Int)(t:ab):Bool:= !eqS t.1 ⟨#[]⟩&& !jkp t.1|| !q45 N t.2.1|| !q45 N t.2.2.1
def zw(n:ff):Bool:=decide (1≤n.1)&&decide (n.1≤40)&&decide (n.2.1.length≤60)&& !n.2.1.any (jmc n.1)&&(decide (0≤n.2.2.1)&&decide (n.2.2.1<n.1))&&(decide (0≤n.2.2.2.1)&&decide (n.2.2.2.1<n.1))
theorem jsz(N x:Int):q45 N [x]=(decide (0≤x)&&decide (x<N)):=by
 unfold q45 q7y;rw[Bool.eq_iff_iff];simp
theorem jir{n:ff}(h:Small n):jo n=some (zw n):=by
 have hL:q5p n.2.1 (n.2.1.length:Int) n.1 n.2.1 n.2.2.1 n.2.2.2.1 0=some (bif n.2.1.any (jmc n.1)then .inr false else .inl ()):=by
  have hl:=h.trans;refine qb2 n.2.1 ab.z (jmc n.1) false (by omega) (fun i hi=> ?_) ?_
  ·have h1:=h.ins _ (cr ab.z hi);have h2:=h.outs _ (cr ab.z hi);unfold jmc;simp(disch:=omega)only[jvt,qi1,jws,ba,aj,ai,ar,ax,bc,a8,am,a7,al,az,ak,a9,ao,aq,af,ae,ag,au,ay,Int.toNat_natCast,decide_true];rw[qe8 _ _ (by omega),qe8 _ _ (by omega),bq];simp only[ag];cases eqS (n.2.1.getD i ab.z).1 ⟨#[]⟩<;>cases jkp (n.2.1.getD i ab.z).1<;>cases q45 n.1 (n.2.1.getD i ab.z).2.1<;>cases q45 n.1 (n.2.1.getD i ab.z).2.2.1<;>rfl
  ·simp(disch:=omega)only[qi1,ba,aj,ai,ar,ax,bc,a8,am,a7,al,az,ak,a9,ao,aq,af,ae,ag,au,ay,Int.toNat_natCast,decide_true]
 unfold jo zw;rw[hL,qe8 _ _ (by simp),qe8 _ _ (by simp),jsz,jsz];have e1:decide (1≤n.1)= !decide (n.1<1):=by rw[Bool.eq_iff_iff];simp
 have e2:decide (n.1≤40)= !decide (40<n.1):=by rw[Bool.eq_iff_iff];simp
 have e3:decide (n.2.1.length≤60)= !decide ((60:Int)<(n.2.1.length:Int)):=by rw[Bool.eq_iff_iff];simp;omega
 rw[e1,e2,e3];cases decide (n.1<1)<;>cases decide (40<n.1)<;>cases decide ((60:Int)<(n.2.1.length:Int))<;>cases n.2.1.any (jmc n.1)<;>cases(decide (0≤n.2.2.1)&&decide (n.2.2.1<n.1))<;>cases(decide (0≤n.2.2.2.1)&&decide (n.2.2.2.1<n.1))<;>rfl
theorem jsx{n:ff}(h:Small n):qs8 n=some (zw n):=by
 have hL:q5y n.1 n.2.1 n.2.2.1 n.2.2.2.1 0=some (bif n.2.1.any (jmc n.1)then .inr false else .inl ()):=by
  have hl:=h.trans;refine qb2 n.2.1 ab.z (jmc n.1) false (by omega) (fun i hi=> ?_) ?_
  ·have h1:=h.ins _ (cr ab.z hi);have h2:=h.outs _ (cr ab.z hi);unfold jmc;simp(disch:=omega)only[jvt,qi6,jqc,ba,aj,ai,ar,ax,bc,a8,am,a7,al,az,ak,a9,ao,aq,af,ae,ag,au,ay,Int.toNat_natCast,decide_true];rw[qzy _ _ (by omega),qzy _ _ (by omega),bq];simp only[ag];cases eqS (n.2.1.getD i ab.z).1 ⟨#[]⟩<;>cases jkp (n.2.1.getD i ab.z).1<;>cases q45 n.1 (n.2.1.getD i ab.z).2.1<;>cases q45 n.1 (n.2.1.getD i ab.z).2.2.1<;>rfl
  ·simp(disch:=omega)only[qi6,ba,aj,ai,ar,ax,bc,a8,am,a7,al,az,ak,a9,ao,aq,af,ae,ag,au,ay,Int.toNat_natCast,decide_true]
 unfold qs8 zw;rw[hL];have e1:decide (1≤n.1)= !decide (n.1<1):=by rw[Bool.eq_iff_iff];simp
 have e2:decide (n.1≤40)= !decide (40<n.1):=by rw[Bool.eq_iff_iff];simp
 have e3:decide (n.2.1.length≤60)= !decide ((60:Int)<(n.2.1.length:Int)):=by rw[Bool.eq_iff_iff];simp;omega
 have e4:∀x:Int,decide (0≤x)= !decide (x<0):=fun x=>by rw[Bool.eq_iff_iff];simp
 have e5:∀x:Int,decide (x<n.1)= !decide (n.1≤x):=fun x=>by rw[Bool.eq_iff_iff];simp
 rw[e1,e2,e3,e4 n.2.2.1,e4 n.2.2.2.1,e5 n.2.2.1,e5 n.2.2.2.1];cases decide (n.1<1)<;>cases decide (40<n.1)<;>cases decide ((60:Int)<(n.2.1.length:Int))<;>cases n.2.1.any (jmc n.1)<;>cases decide (n.2.2.1<0)<;>cases decide (n.1≤n.2.2.1)<;>cases decide (n.2.2.2.1<0)<;>cases decide (n.1≤n.2.2.2.1)<;>rfl
theorem jlt{N:Int}{l:List Int}:q45 N l=true↔(∀x∈l,0≤x∧x<N)∧l.Pairwise (·<·):=by
 unfold q45;rw[List.all_eq_true];constructor
 ·intro h;have hq:∀i,i<l.length→(0≤l.getD i 0∧l.getD i 0<N)∧(0<i→l.getD (i-1) 0<l.getD i 0):=fun i hi=>by
   have:=h i (List.mem_range.2 hi);unfold q7y at this;simp only[Bool.not_eq_true',Bool.or_eq_false_iff,Bool.and_eq_false_iff,decide_eq_false_iff_not]at this;refine⟨by omega,fun h0=> ?_⟩;rcases this.2 with h1|h1
   ·exact absurd h0 h1
   ·omega
  refine⟨fun x hx=> ?_,List.pairwise_iff_getElem.2 fun i j hi hj hij=> ?_⟩
  ·obtain⟨i,hi,rfl⟩:=qvu 0 hx;exact(hq i hi).1
  ·have key:∀d,∀j,j=i+1+d→j<l.length→l.getD i 0<l.getD j 0:=by
    intro d
    induction d with
    |zero=>intro j hj hl;subst hj;exact(hq (i+1) hl).2 (by omega)
    |succ d ih=>
     intro j hj hl;have h1:=ih (i+1+d) rfl (by omega);have h2:=(hq j hl).2 (by omega);rw[show j-1=i+1+d by omega]at h2;omega
   have:=key (j-i-1) j (by omega) hj;rwa[qa3 l i 0 hi,qa3 l j 0 hj]at this
 ·rintro⟨h1,h2⟩ i hi;have hi:=List.mem_range.1 hi;have hb:=h1 _ (cr 0 hi);unfold q7y;simp only[Bool.not_eq_true',Bool.or_eq_false_iff,Bool.and_eq_false_iff,decide_eq_false_iff_not];refine⟨by omega,?_⟩;by_cases h0:0<i
  ·right;have:=List.pairwise_iff_getElem.1 h2 (i-1) i (by omega) hi (by omega);rw[qa3 l i 0 hi,qa3 l (i-1) 0 (by omega)];omega
  ·exact .inl h0
theorem jls(a b:List Int)(ha:a.length≤1000000):qn3 a b=some (decide (a=b)):=by
 unfold qn3;by_cases hl:a.length=b.length
 ·rw[q4d (by simp[hl])];have hloop:qzs a b 0=some (bif (List.range a.length).all (fun i=>decide (a.getD i 0=b.getD i 0))then .inl ()else .inr false):=by
   refine z7 (fun i:Nat=>(i:Int)) a.length (ic (by omega)) _ () false ?_ ?_ ?_
   ·intro i hi hp;have hp' :a.getD i 0=b.getD i 0:=of_decide_eq_true hp;simp(disch:=omega)only[vc,ba,aj,ai,ar,ax,bc,a8,am,a7,al,az,ak,a9,ao,aq,af,ae,ag,au,ay,Int.toNat_natCast,decide_true];rw[bq]
   ·intro i hi hp;have hp' :a.getD i 0≠b.getD i 0:=of_decide_eq_false hp;simp(disch:=omega)only[vc,ba,aj,ai,ar,ax,bc,a8,am,a7,al,az,ak,a9,ao,aq,af,ae,ag,au,ay,Int.toNat_natCast,decide_true]
   ·simp(disch:=omega)only[vc,ba,aj,ai,ar,ax,bc,a8,am,a7,al,az,ak,a9,ao,aq,af,ae,ag,au,ay,Int.toNat_natCast,decide_true]
  rw[hloop,ag];have hall:(List.range a.length).all (fun i=>decide (a.getD i 0=b.getD i 0))=decide (a=b):=by
   rw[Bool.eq_iff_iff,List.all_eq_true,decide_eq_true_iff];constructor
   ·intro h;refine List.ext_getElem hl fun i h1 h2=> ?_
    have:=of_decide_eq_true (h i (List.mem_range.2 h1));rw[qa3 a i 0 h1,qa3 b i 0 h2]at this;exact this
   ·rintro rfl i _;simp
  rw[hall];cases decide (a=b)<;>rfl
 ·have:¬a=b:=fun h=>hl (by rw[h])
  rw[q4e (by simp;omega),decide_eq_false this]
theorem jze(n:ff):∃b,qsx n=some b∧(b=false→Small n∧(n.2.1.length≤12∨60≤n.2.1.length)∧(n.1≤12∨40<n.1)):=by
 have h1:∀t:ab,qnz t=some (decide ((60:Int)<(t.2.1.length:Int))||decide ((60:Int)<(t.2.2.1.length:Int))||decide ((100:Int)<(t.1.size:Int))):=fun t=>by
  unfold qnz;cases decide ((60:Int)<(t.2.1.length:Int))<;>cases decide ((60:Int)<(t.2.2.1.length:Int))<;>rfl
 have hC:n.2.1.length≤80→cf n.2.1=some (n.2.1.any fun t=>decide ((60:Int)<(t.2.1.length:Int))||decide ((60:Int)<(t.2.2.1.length:Int))||decide ((100:Int)<(t.1.size:Int))):=fun hl=>by
  have hL:l3 n.2.1 (n.2.1.length:Int) 0=some (q6l (fun i=>(i:Int)) (qas (fun t:ab=>decide ((60:Int)<(t.2.1.length:Int))||decide ((60:Int)<(t.2.2.1.length:Int))||decide ((100:Int)<(t.1.size:Int))) n.2.1)):=by
   refine ny n.2.1 ab.z (fun t:ab=>decide ((60:Int)<(t.2.1.length:Int))||decide ((60:Int)<(t.2.2.1.length:Int))||decide ((100:Int)<(t.1.size:Int))) (fun i=>(i:Int)) (by omega) (fun i hi=> ?_) ?_
   ·simp(disch:=omega)only[d9,h1,ba,aj,ai,ar,ax,bc,a8,am,a7,al,az,ak,a9,ao,aq,af,ae,ag,au,ay,Int.toNat_natCast,decide_true];rw[bq];exact qw4
   ·simp(disch:=omega)only[d9,ba,aj,ai,ar,ax,bc,a8,am,a7,al,az,ak,a9,ao,aq,af,ae,ag,au,ay,Int.toNat_natCast,decide_true]
  unfold cf gv;rw[hL,ag,qiv,ag,qny]
 have hF:n.2.1.length≤80→(n.2.1.any fun t=>decide ((60:Int)<(t.2.1.length:Int))||decide ((60:Int)<(t.2.2.1.length:Int))||decide ((100:Int)<(t.1.size:Int)))=false→Small n:=fun hl ha=>by
  have key:∀t∈n.2.1,t.2.1.length≤60∧t.2.2.1.length≤60:=fun t ht=>by
   have:=List.any_eq_false.1 ha t ht;simp only[Bool.or_eq_true,decide_eq_true_eq,not_or]at this;omega
  exact⟨by omega,fun t ht=>(key t ht).1,fun t ht=>(key t ht).2⟩
 unfold qsx;by_cases c1:(80:Int)<(n.2.1.length:Int)
 ·refine⟨true,?_,fun h=>by cases h⟩;by_cases c2:(12:Int)<n.1<;>by_cases c3:n.1≤40<;>(first|omega|simp(disch:=omega)only[ba,aj,ai,ar,ax,bc,a8,am,a7,al,az,ak,a9,ao,aq,af,ae,ag,au,ay,Int.toNat_natCast,decide_true])
 ·have hl:n.2.1.length≤80:=by omega
  by_cases c3:(12:Int)<n.1
  ·by_cases c4:n.1≤40
   ·exact⟨true,by simp(disch:=omega)only[ba,aj,ai,ar,ax,bc,a8,am,a7,al,az,ak,a9,ao,aq,af,ae,ag,au,ay,Int.toNat_natCast,decide_true],fun h=>by cases h⟩
   ·by_cases c2:(12:Int)<(n.2.1.length:Int)
    ·by_cases c5:(n.2.1.length:Int)<60
     ·exact⟨true,by simp(disch:=omega)only[ba,aj,ai,ar,ax,bc,a8,am,a7,al,az,ak,a9,ao,aq,af,ae,ag,au,ay,Int.toNat_natCast,decide_true],fun h=>by cases h⟩
     ·exact⟨_,by simp(disch:=omega)only[hC hl,ba,aj,ai,ar,ax,bc,a8,am,a7,al,az,ak,a9,ao,aq,af,ae,ag,au,ay,Int.toNat_natCast,decide_true],fun h=>⟨hF hl h,by omega,by omega⟩⟩
    ·exact⟨_,by simp(disch:=omega)only[hC hl,ba,aj,ai,ar,ax,bc,a8,am,a7,al,az,ak,a9,ao,aq,af,ae,ag,au,ay,Int.toNat_natCast,decide_true],fun h=>⟨hF hl h,by omega,by omega⟩⟩
  ·by_cases c2:(12:Int)<(n.2.1.length:Int)
   ·by_cases c5:(n.2.1.length:Int)<60
    ·exact⟨true,by simp(disch:=omega)only[ba,aj,ai,ar,ax,bc,a8,am,a7,al,az,ak,a9,ao,aq,af,ae,ag,au,ay,Int.toNat_natCast,decide_true],fun h=>by cases h⟩
    ·exact⟨_,by simp(disch:=omega)only[hC hl,ba,aj,ai,ar,ax,bc,a8,am,a7,al,az,ak,a9,ao,aq,af,ae,ag,au,ay,Int.toNat_natCast,decide_true],fun h=>⟨hF hl h,by omega,by omega⟩⟩
   ·exact⟨_,by simp(disch:=omega)only[hC hl,ba,aj,ai,ar,ax,bc,a8,am,a7,al,az,ak,a9,ao,aq,af,ae,ag,au,ay,Int.toNat_natCast,decide_true],fun h=>⟨hF hl h,by omega,by omega⟩⟩
end Go.Proofs.YtclbndfjhjladaaGreat
