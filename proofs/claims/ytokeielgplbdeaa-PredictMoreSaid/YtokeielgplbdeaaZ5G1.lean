/-
  Freechoice: names, lists of places, nets: the program and the reference reckon alike.
-/
import Derived.Test.YtokeielgplbdeaaZ5Md
import Derived.Test.YtokeielgplbdeaaZ5KE
import Derived.KernelRfl
set_option linter.all false
namespace Go.Proofs.Ytokeielgplbdeaa
open Go.K Go.M
def eqS(a b:ByteArray):Bool:=ByteArray.toList a==ByteArray.toList b
theorem q1h(a b:ByteArray):(ByteArray.toList a==ByteArray.toList b)=eqS a b:=rfl
def qnq(c:Int):Bool:=decide (65≤c)&&decide (c≤90)||decide (97≤c)&&decide (c≤122)
def zm(c:Int):Bool:=qnq c||decide (48≤c)&&decide (c≤57)||decide (c=95)||decide (c=45)||decide (c=46)
abbrev byt(s:ByteArray)(i:Nat):Int:=((ByteArray.data s).getD i 0).toNat
theorem qs0(c:Int):v9 c=some (qnq c):=by
 unfold v9 qnq;cases decide ((65:Int)≤c)<;>cases decide (c≤(90:Int))<;>cases decide ((97:Int)≤c)<;>cases decide (c≤(122:Int))<;>rfl
theorem qds(c:Int):x5 c=some (qnq c):=by
 unfold x5 qnq;cases decide ((65:Int)≤c)<;>cases decide (c≤(90:Int))<;>cases decide ((97:Int)≤c)<;>cases decide (c≤(122:Int))<;>rfl
theorem q14(c:Int):qgv c=some (zm c):=by
 unfold qgv zm;rw[qs0,jl];cases qnq c<;>cases decide ((48:Int)≤c)<;>cases decide (c≤(57:Int))<;>cases decide (c=(95:Int))<;>cases decide (c=(45:Int))<;>cases decide (c=(46:Int))<;>rfl
def qpx(s:ByteArray):Bool:=decide (1≤s.size)&&decide (s.size≤40)&&qnq (byt s 0)&&(List.range s.size).all fun i=>zm (byt s i)
theorem q2u(s:ByteArray):zl s=some (qpx s):=by
 unfold zl qpx;by_cases h1:(s.size:Int)<1
 ·have:¬1≤s.size:=by omega
  simp(disch:=omega)only[rs];rw[decide_eq_false this];rfl
 ·have h1' :1≤s.size:=by omega
  rw[decide_eq_true h1'];by_cases h2:40<(s.size:Int)
  ·have:¬s.size≤40:=by omega
   simp(disch:=omega)only[rs];rw[decide_eq_false this];rfl
  ·have h2' :s.size≤40:=by omega
   rw[decide_eq_true h2'];have hL:qhk s (s.size:Int) 0=some (bif (List.range s.size).all (fun i=>zm (byt s i))then .inl ()else .inr false):=by
    refine qbg (fun i:Nat=>(i:Int)) s.size (bz (by omega)) _ () false ?_ ?_ ?_
    ·intro i hi hp;simp(disch:=omega)only[ox,q14,hp,Bool.not_true,rs];rw[aq]
    ·intro i hi hp;simp(disch:=omega)only[ox,q14,hp,Bool.not_false,rs]
    ·simp(disch:=omega)only[ox,rs]
   simp(disch:=omega)only[qs0,hL,rs];cases qnq (byt s 0)with
   |false=>rfl
   |true=>cases(List.range s.size).all (fun i=>zm (byt s i))<;>rfl
theorem qor(n:Nat)(p:Nat→Bool):(List.range (n+1)).all p=(p 0&&(List.range n).all fun i=>p (i+1)):=by
 rw[List.range_succ_eq_map,List.all_cons,List.all_map];rfl
theorem qvm(s:ByteArray):qdq s=some (qpx s):=by
 unfold qdq qpx;by_cases h1:(s.size:Int)<1
 ·have:¬1≤s.size:=by omega
  simp(disch:=omega)only[rs];rw[decide_eq_false this];rfl
 ·have h1' :1≤s.size:=by omega
  rw[decide_eq_true h1'];by_cases h2:40<(s.size:Int)
  ·have:¬s.size≤40:=by omega
   simp(disch:=omega)only[rs];rw[decide_eq_false this];rfl
  ·have h2' :s.size≤40:=by omega
   rw[decide_eq_true h2'];have hL:qgb s 1=some (bif (List.range (s.size-1)).all (fun i=>zm (byt s (i+1)))then .inl ()else .inr false):=by
    refine qbg (fun i:Nat=>((i+1:Nat):Int)) (s.size-1) (bz (by omega)) _ () false ?_ ?_ ?_
    ·intro i hi hp;unfold zm at hp;simp(disch:=omega)only[qo,qds,rs];rw[aq];revert hp;cases qnq (byt s (i+1))<;>cases decide ((48:Int)≤byt s (i+1))<;>cases decide (byt s (i+1)≤(57:Int))<;>cases decide (byt s (i+1)=(95:Int))<;>cases decide (byt s (i+1)=(45:Int))<;>cases decide (byt s (i+1)=(46:Int))<;>intro hp<;>first|rfl|cases hp
    ·intro i hi hp;unfold zm at hp;simp(disch:=omega)only[qo,qds,rs];revert hp;cases qnq (byt s (i+1))<;>cases decide ((48:Int)≤byt s (i+1))<;>cases decide (byt s (i+1)≤(57:Int))<;>cases decide (byt s (i+1)=(95:Int))<;>cases decide (byt s (i+1)=(45:Int))<;>cases decide (byt s (i+1)=(46:Int))<;>intro hp<;>first|rfl|cases hp
    ·have e:s.size-1+1=s.size:=by omega
     rw[e];simp(disch:=omega)only[qo,rs]
   simp(disch:=omega)only[qds,hL,rs];have e:s.size=s.size-1+1:=by omega
   have e2:(List.range s.size).all (fun i=>zm (byt s i))=(zm (byt s 0)&&(List.range (s.size-1)).all fun i=>zm (byt s (i+1))):=by
    conv=>lhs;rw[e]
    exact qor _ _
   rw[e2];have e3:qnq (byt s 0)=true→zm (byt s 0)=true:=fun h=>by unfold zm;rw[h];rfl
   cases h:qnq (byt s 0)with
   |false=>rfl
   |true=>
    rw[e3 h];cases(List.range (s.size-1)).all (fun i=>zm (byt s (i+1)))<;>rfl
def qje(N:Int)(l:List Int)(i:Nat):Bool:=decide (l.getD i 0<0)||decide (N≤l.getD i 0)||decide (0<i)&&decide (l.getD i 0≤l.getD (i-1) 0)
def qhg(N:Int)(l:List Int):Bool:=(List.range l.length).all fun i=> !qje N l i
theorem qkr(N:Int)(ts:List aj)(a b:Int)(l:List Int)(h:l.length≤1000000):qfz l l (l.length:Int) N ts a b 0=some (bif (List.range l.length).all (fun i=> !qje N l i)then .inl ()else .inr false):=by
 have hst:∀i:Nat,i<l.length→ko l l (l.length:Int) N ts a b (R:=LR Int Unit Bool) (i:Int) (fun a' =>some (.next a')) (fun e=>some (.done e)) (fun r=>some (.ret r))=some (bif qje N l i then .ret false else .next ((i+1:Nat):Int)):=fun i hi=>by
  unfold qje;by_cases h0:0<i
  ·have e:(i:Int)-1=((i-1:Nat):Int):=by omega
   have h0' :(0:Int)<(i:Int):=by omega
   rw[decide_eq_true h0];simp(disch:=omega)only[ko,e,rs];rw[aq];cases decide (l.getD i 0<0)<;>cases decide (N≤l.getD i 0)<;>cases decide (l.getD i 0≤l.getD (i-1) 0)<;>rfl
  ·have h0' :¬(0:Int)<(i:Int):=by omega
   rw[decide_eq_false h0];simp(disch:=omega)only[ko,rs];rw[aq];cases decide (l.getD i 0<0)<;>cases decide (N≤l.getD i 0)<;>rfl
 refine qbg (fun i:Nat=>(i:Int)) l.length (bz (by omega)) _ () false (fun i hi hp=> ?_) (fun i hi hp=> ?_) ?_
 ·have hb:qje N l i=false:=by simpa using hp
  exact(hst i hi).trans (by rw[hb];rfl)
 ·have hb:qje N l i=true:=by simpa using hp
  exact(hst i hi).trans (by rw[hb];rfl)
 ·simp(disch:=omega)only[ko,rs]
theorem qkw(N:Int)(ts:List aj)(a b:Int)(l:List Int)(h:l.length≤1000000):qgc N l 0=some (bif (List.range l.length).all (fun i=> !qje N l i)then .inl ()else .inr false):=by
 have hst:∀i:Nat,i<l.length→nr N l (R:=LR Int Unit Bool) (i:Int) (fun a' =>some (.next a')) (fun e=>some (.done e)) (fun r=>some (.ret r))=some (bif qje N l i then .ret false else .next ((i+1:Nat):Int)):=fun i hi=>by
  unfold qje;by_cases h0:0<i
  ·have e:(i:Int)-1=((i-1:Nat):Int):=by omega
   have h0' :(0:Int)<(i:Int):=by omega
   rw[decide_eq_true h0];simp(disch:=omega)only[nr,e,rs];rw[aq];cases decide (l.getD i 0<0)<;>cases decide (N≤l.getD i 0)<;>cases decide (l.getD i 0≤l.getD (i-1) 0)<;>rfl
  ·have h0' :¬(0:Int)<(i:Int):=by omega
   rw[decide_eq_false h0];simp(disch:=omega)only[nr,rs];rw[aq];cases decide (l.getD i 0<0)<;>cases decide (N≤l.getD i 0)<;>rfl
 refine qbg (fun i:Nat=>(i:Int)) l.length (bz (by omega)) _ () false (fun i hi hp=> ?_) (fun i hi hp=> ?_) ?_
 ·have hb:qje N l i=false:=by simpa using hp
  exact(hst i hi).trans (by rw[hb];rfl)
 ·have hb:qje N l i=true:=by simpa using hp
  exact(hst i hi).trans (by rw[hb];rfl)
 ·simp(disch:=omega)only[nr,rs]
theorem q43{b:Bool}:(lk (bif b then(.inl ():Unit⊕Bool)else .inr false) (fun _=>some true) fun r=>some r)=some b:=by cases b<;>rfl
theorem qm(n:dr)(l:List Int)(h:l.length≤1000000):jq n l=some (qhg n.1 l):=by
 unfold jq qhg;rw[qkr n.1 n.2.1 n.2.2.1 n.2.2.2.1 l h,jl,q43]
theorem qeo(N:Int)(l:List Int)(h:l.length≤1000000):pn N l=some (qhg N l):=by
 unfold pn qhg;rw[qkw N [] 0 0 l h,jl,q43]
structure Small (n : dr) : Prop where
 trans : n.2.1.length ≤ 100
 ins : ∀ t ∈ n.2.1, t.2.1.length ≤ 60
 outs : ∀ t ∈ n.2.1, t.2.2.1.length ≤ 60
def qrk(N:Int)(t:aj):Bool:= !eqS t.1 ⟨#[]⟩&& !qpx t.1|| !qhg N t.2.1|| !qhg N t.2.2.1
def em(n:dr):Bool:=decide (1≤n.1)&&decide (n.1≤40)&&decide (n.2.1.length≤60)&& !n.2.1.any (qrk n.1)&&(decide (0≤n.2.2.1)&&decide (n.2.2.1<n.1))&&(decide (0≤n.2.2.2.1)&&decide (n.2.2.2.1<n.1))
theorem qx0(N x:Int):qhg N [x]=(decide (0≤x)&&decide (x<N)):=by
 unfold qhg qje;rw[Bool.eq_iff_iff];simp
theorem qi9{n:dr}(h:Small n):mq n=some (em n):=by
 have hL:qhq n.2.1 (n.2.1.length:Int) n.1 n.2.1 n.2.2.1 n.2.2.2.1 0=some (bif n.2.1.any (qrk n.1)then .inr false else .inl ()):=by
  have hl:=h.trans;refine yh n.2.1 aj.z (qrk n.1) false (by omega) (fun i hi=> ?_) ?_
  ·have h1:=h.ins _ (ba aj.z hi);have h2:=h.outs _ (ba aj.z hi);unfold qrk;simp(disch:=omega)only[q1h,ss,q2u,rs];rw[qm _ _ (by omega),qm _ _ (by omega),aq];simp only[jl];cases eqS (n.2.1.getD i aj.z).1 ⟨#[]⟩<;>cases qpx (n.2.1.getD i aj.z).1<;>cases qhg n.1 (n.2.1.getD i aj.z).2.1<;>cases qhg n.1 (n.2.1.getD i aj.z).2.2.1<;>rfl
  ·simp(disch:=omega)only[ss,rs]
 unfold mq em;rw[hL,qm _ _ (by simp),qm _ _ (by simp),qx0,qx0];have e1:decide (1≤n.1)= !decide (n.1<1):=by rw[Bool.eq_iff_iff];simp
 have e2:decide (n.1≤40)= !decide (40<n.1):=by rw[Bool.eq_iff_iff];simp
 have e3:decide (n.2.1.length≤60)= !decide ((60:Int)<(n.2.1.length:Int)):=by rw[Bool.eq_iff_iff];simp;omega
 rw[e1,e2,e3];cases decide (n.1<1)<;>cases decide (40<n.1)<;>cases decide ((60:Int)<(n.2.1.length:Int))<;>cases n.2.1.any (qrk n.1)<;>cases(decide (0≤n.2.2.1)&&decide (n.2.2.1<n.1))<;>cases(decide (0≤n.2.2.2.1)&&decide (n.2.2.2.1<n.1))<;>rfl
theorem z4{n:dr}(h:Small n):wh n=some (em n):=by
 have hL:qhz n.1 n.2.1 n.2.2.1 n.2.2.2.1 0=some (bif n.2.1.any (qrk n.1)then .inr false else .inl ()):=by
  have hl:=h.trans;refine yh n.2.1 aj.z (qrk n.1) false (by omega) (fun i hi=> ?_) ?_
  ·have h1:=h.ins _ (ba aj.z hi);have h2:=h.outs _ (ba aj.z hi);unfold qrk;simp(disch:=omega)only[q1h,yx,qvm,rs];rw[qeo _ _ (by omega),qeo _ _ (by omega),aq];simp only[jl];cases eqS (n.2.1.getD i aj.z).1 ⟨#[]⟩<;>cases qpx (n.2.1.getD i aj.z).1<;>cases qhg n.1 (n.2.1.getD i aj.z).2.1<;>cases qhg n.1 (n.2.1.getD i aj.z).2.2.1<;>rfl
  ·simp(disch:=omega)only[yx,rs]
 unfold wh em;rw[hL];have e1:decide (1≤n.1)= !decide (n.1<1):=by rw[Bool.eq_iff_iff];simp
 have e2:decide (n.1≤40)= !decide (40<n.1):=by rw[Bool.eq_iff_iff];simp
 have e3:decide (n.2.1.length≤60)= !decide ((60:Int)<(n.2.1.length:Int)):=by rw[Bool.eq_iff_iff];simp;omega
 have e4:∀x:Int,decide (0≤x)= !decide (x<0):=fun x=>by rw[Bool.eq_iff_iff];simp
 have e5:∀x:Int,decide (x<n.1)= !decide (n.1≤x):=fun x=>by rw[Bool.eq_iff_iff];simp
 rw[e1,e2,e3,e4 n.2.2.1,e4 n.2.2.2.1,e5 n.2.2.1,e5 n.2.2.2.1];cases decide (n.1<1)<;>cases decide (40<n.1)<;>cases decide ((60:Int)<(n.2.1.length:Int))<;>cases n.2.1.any (qrk n.1)<;>cases decide (n.2.2.1<0)<;>cases decide (n.1≤n.2.2.1)<;>cases decide (n.2.2.2.1<0)<;>cases decide (n.1≤n.2.2.2.1)<;>rfl
theorem qq2{N:Int}{l:List Int}:qhg N l=true↔(∀x∈l,0≤x∧x<N)∧l.Pairwise (·<·):=by
 unfold qhg;rw[List.all_eq_true];constructor
 ·intro h;have hq:∀i,i<l.length→(0≤l.getD i 0∧l.getD i 0<N)∧(0<i→l.getD (i-1) 0<l.getD i 0):=fun i hi=>by
   have:=h i (List.mem_range.2 hi);unfold qje at this;simp only[Bool.not_eq_true',Bool.or_eq_false_iff,Bool.and_eq_false_iff,decide_eq_false_iff_not]at this;refine⟨by omega,fun h0=> ?_⟩;rcases this.2 with h1|h1
   ·exact absurd h0 h1
   ·omega
  refine⟨fun x hx=> ?_,List.pairwise_iff_getElem.2 fun i j hi hj hij=> ?_⟩
  ·obtain⟨i,hi,rfl⟩:=kd 0 hx;exact(hq i hi).1
  ·have key:∀d,∀j,j=i+1+d→j<l.length→l.getD i 0<l.getD j 0:=by
    intro d
    induction d with
    |zero=>intro j hj hl;subst hj;exact(hq (i+1) hl).2 (by omega)
    |succ d ih=>
     intro j hj hl;have h1:=ih (i+1+d) rfl (by omega);have h2:=(hq j hl).2 (by omega);rw[show j-1=i+1+d by omega]at h2;omega
   have:=key (j-i-1) j (by omega) hj;rwa[m6 l i 0 hi,m6 l j 0 hj]at this
 ·rintro⟨h1,h2⟩ i hi;have hi:=List.mem_range.1 hi;have hb:=h1 _ (ba 0 hi);unfold qje;simp only[Bool.not_eq_true',Bool.or_eq_false_iff,Bool.and_eq_false_iff,decide_eq_false_iff_not];refine⟨by omega,?_⟩;by_cases h0:0<i
  ·right;have:=List.pairwise_iff_getElem.1 h2 (i-1) i (by omega) hi (by omega);rw[m6 l i 0 hi,m6 l (i-1) 0 (by omega)];omega
  ·exact .inl h0
theorem qwb(l:List Int)(h:l.length≤1000000):gb l=some l:=by
 unfold gb jz;simp(disch:=omega)only[List.nil_append,rs]
end Go.Proofs.Ytokeielgplbdeaa
