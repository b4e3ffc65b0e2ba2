/-
  Freechoice: names, lists of places, nets: the program and the reference reckon alike.
-/
import Derived.Test.YtokeielgplbdeaaZ4Md
import Derived.Test.YtokeielgplbdeaaZ4KE
import Derived.KernelRfl
set_option linter.all false
namespace Go.Proofs.Ytokeielgplbdeaa
open Go.K Go.M
def eqS(a b:ByteArray):Bool:=ByteArray.toList a==ByteArray.toList b
theorem q2o(a b:ByteArray):(ByteArray.toList a==ByteArray.toList b)=eqS a b:=rfl
def qou(c:Int):Bool:=decide (65≤c)&&decide (c≤90)||decide (97≤c)&&decide (c≤122)
def qae(c:Int):Bool:=qou c||decide (48≤c)&&decide (c≤57)||decide (c=95)||decide (c=45)||decide (c=46)
abbrev byt(s:ByteArray)(i:Nat):Int:=((ByteArray.data s).getD i 0).toNat
theorem qt0(c:Int):wy c=some (qou c):=by
 unfold wy qou;cases decide ((65:Int)≤c)<;>cases decide (c≤(90:Int))<;>cases decide ((97:Int)≤c)<;>cases decide (c≤(122:Int))<;>rfl
theorem qeq(c:Int):yo c=some (qou c):=by
 unfold yo qou;cases decide ((65:Int)≤c)<;>cases decide (c≤(90:Int))<;>cases decide ((97:Int)≤c)<;>cases decide (c≤(122:Int))<;>rfl
theorem q3d(c:Int):qhy c=some (qae c):=by
 unfold qhy qae;rw[qt0,i4];cases qou c<;>cases decide ((48:Int)≤c)<;>cases decide (c≤(57:Int))<;>cases decide (c=(95:Int))<;>cases decide (c=(45:Int))<;>cases decide (c=(46:Int))<;>rfl
def qq4(s:ByteArray):Bool:=decide (1≤s.size)&&decide (s.size≤40)&&qou (byt s 0)&&(List.range s.size).all fun i=>qae (byt s i)
theorem q32(s:ByteArray):qad s=some (qq4 s):=by
 unfold qad qq4;by_cases h1:(s.size:Int)<1
 ·have:¬1≤s.size:=by omega
  simp(disch:=omega)only[rs];rw[decide_eq_false this];rfl
 ·have h1' :1≤s.size:=by omega
  rw[decide_eq_true h1'];by_cases h2:40<(s.size:Int)
  ·have:¬s.size≤40:=by omega
   simp(disch:=omega)only[rs];rw[decide_eq_false this];rfl
  ·have h2' :s.size≤40:=by omega
   rw[decide_eq_true h2'];have hL:qil s (s.size:Int) 0=some (bif (List.range s.size).all (fun i=>qae (byt s i))then .inl ()else .inr false):=by
    refine qcc (fun i:Nat=>(i:Int)) s.size (bh (by omega)) _ () false ?_ ?_ ?_
    ·intro i hi hp;simp(disch:=omega)only[pb,q3d,hp,Bool.not_true,rs];rw[aj]
    ·intro i hi hp;simp(disch:=omega)only[pb,q3d,hp,Bool.not_false,rs]
    ·simp(disch:=omega)only[pb,rs]
   simp(disch:=omega)only[qt0,hL,rs];cases qou (byt s 0)with
   |false=>rfl
   |true=>cases(List.range s.size).all (fun i=>qae (byt s i))<;>rfl
theorem qpy(n:Nat)(p:Nat→Bool):(List.range (n+1)).all p=(p 0&&(List.range n).all fun i=>p (i+1)):=by
 rw[List.range_succ_eq_map,List.all_cons,List.all_map];rfl
theorem qwo(s:ByteArray):qeo s=some (qq4 s):=by
 unfold qeo qq4;by_cases h1:(s.size:Int)<1
 ·have:¬1≤s.size:=by omega
  simp(disch:=omega)only[rs];rw[decide_eq_false this];rfl
 ·have h1' :1≤s.size:=by omega
  rw[decide_eq_true h1'];by_cases h2:40<(s.size:Int)
  ·have:¬s.size≤40:=by omega
   simp(disch:=omega)only[rs];rw[decide_eq_false this];rfl
  ·have h2' :s.size≤40:=by omega
   rw[decide_eq_true h2'];have hL:qhb s 1=some (bif (List.range (s.size-1)).all (fun i=>qae (byt s (i+1)))then .inl ()else .inr false):=by
    refine qcc (fun i:Nat=>((i+1:Nat):Int)) (s.size-1) (bh (by omega)) _ () false ?_ ?_ ?_
    ·intro i hi hp;unfold qae at hp;simp(disch:=omega)only[qx,qeq,rs];rw[aj];revert hp;cases qou (byt s (i+1))<;>cases decide ((48:Int)≤byt s (i+1))<;>cases decide (byt s (i+1)≤(57:Int))<;>cases decide (byt s (i+1)=(95:Int))<;>cases decide (byt s (i+1)=(45:Int))<;>cases decide (byt s (i+1)=(46:Int))<;>intro hp<;>first|rfl|cases hp
    ·intro i hi hp;unfold qae at hp;simp(disch:=omega)only[qx,qeq,rs];revert hp;cases qou (byt s (i+1))<;>cases decide ((48:Int)≤byt s (i+1))<;>cases decide (byt s (i+1)≤(57:Int))<;>cases decide (byt s (i+1)=(95:Int))<;>cases decide (byt s (i+1)=(45:Int))<;>cases decide (byt s (i+1)=(46:Int))<;>intro hp<;>first|rfl|cases hp
    ·have e:s.size-1+1=s.size:=by omega
     rw[e];simp(disch:=omega)only[qx,rs]
   simp(disch:=omega)only[qeq,hL,rs];have e:s.size=s.size-1+1:=by omega
   have e2:(List.range s.size).all (fun i=>qae (byt s i))=(qae (byt s 0)&&(List.range (s.size-1)).all fun i=>qae (byt s (i+1))):=by
    conv=>lhs;rw[e]
    exact qpy _ _
   rw[e2];have e3:qou (byt s 0)=true→qae (byt s 0)=true:=fun h=>by unfold qae;rw[h];rfl
   cases h:qou (byt s 0)with
   |false=>rfl
   |true=>
    rw[e3 h];cases(List.range (s.size-1)).all (fun i=>qae (byt s (i+1)))<;>rfl
def jkj(l:List Int)(x:Int):Bool:=l.any fun y=>decide (x=y)
theorem qxc(l:List Int)(h:l.length≤1000000)(x:Int):f8 l x=some (jkj l x):=by
 have hL:tu l x (l.length:Int) 0=some (qvf (fun i=>(i:Int)) (km (fun y=>decide (x=y)) l)):=by
  refine ro l 0 (fun y=>decide (x=y)) (fun i=>(i:Int)) (by omega) (fun i hi=> ?_) ?_
  ·simp(disch:=omega)only[jh,rs];rw[aj];cases decide (x=l.getD i 0)<;>rfl
  ·simp(disch:=omega)only[jh,rs]
 unfold f8 pn;rw[hL,i4,qd8,i4,qku];rfl
def qkb(N:Int)(l:List Int)(i:Nat):Bool:=decide (l.getD i 0<0)||decide (N≤l.getD i 0)||decide (0<i)&&decide (l.getD i 0≤l.getD (i-1) 0)
def qif(N:Int)(l:List Int):Bool:=(List.range l.length).all fun i=> !qkb N l i
theorem qlq(N:Int)(ts:List ai)(a b:Int)(l:List Int)(h:l.length≤1000000):qgw l l (l.length:Int) N ts a b 0=some (bif (List.range l.length).all (fun i=> !qkb N l i)then .inl ()else .inr false):=by
 have hst:∀i:Nat,i<l.length→kq l l (l.length:Int) N ts a b (R:=LR Int Unit Bool) (i:Int) (fun a' =>some (.next a')) (fun e=>some (.done e)) (fun r=>some (.ret r))=some (bif qkb N l i then .ret false else .next ((i+1:Nat):Int)):=fun i hi=>by
  unfold qkb;by_cases h0:0<i
  ·have e:(i:Int)-1=((i-1:Nat):Int):=by omega
   have h0' :(0:Int)<(i:Int):=by omega
   rw[decide_eq_true h0];simp(disch:=omega)only[kq,e,rs];rw[aj];cases decide (l.getD i 0<0)<;>cases decide (N≤l.getD i 0)<;>cases decide (l.getD i 0≤l.getD (i-1) 0)<;>rfl
  ·have h0' :¬(0:Int)<(i:Int):=by omega
   rw[decide_eq_false h0];simp(disch:=omega)only[kq,rs];rw[aj];cases decide (l.getD i 0<0)<;>cases decide (N≤l.getD i 0)<;>rfl
 refine qcc (fun i:Nat=>(i:Int)) l.length (bh (by omega)) _ () false (fun i hi hp=> ?_) (fun i hi hp=> ?_) ?_
 ·have hb:qkb N l i=false:=by simpa using hp
  exact(hst i hi).trans (by rw[hb];rfl)
 ·have hb:qkb N l i=true:=by simpa using hp
  exact(hst i hi).trans (by rw[hb];rfl)
 ·simp(disch:=omega)only[kq,rs]
theorem qlv(N:Int)(ts:List ai)(a b:Int)(l:List Int)(h:l.length≤1000000):qhc N l 0=some (bif (List.range l.length).all (fun i=> !qkb N l i)then .inl ()else .inr false):=by
 have hst:∀i:Nat,i<l.length→ny N l (R:=LR Int Unit Bool) (i:Int) (fun a' =>some (.next a')) (fun e=>some (.done e)) (fun r=>some (.ret r))=some (bif qkb N l i then .ret false else .next ((i+1:Nat):Int)):=fun i hi=>by
  unfold qkb;by_cases h0:0<i
  ·have e:(i:Int)-1=((i-1:Nat):Int):=by omega
   have h0' :(0:Int)<(i:Int):=by omega
   rw[decide_eq_true h0];simp(disch:=omega)only[ny,e,rs];rw[aj];cases decide (l.getD i 0<0)<;>cases decide (N≤l.getD i 0)<;>cases decide (l.getD i 0≤l.getD (i-1) 0)<;>rfl
  ·have h0' :¬(0:Int)<(i:Int):=by omega
   rw[decide_eq_false h0];simp(disch:=omega)only[ny,rs];rw[aj];cases decide (l.getD i 0<0)<;>cases decide (N≤l.getD i 0)<;>rfl
 refine qcc (fun i:Nat=>(i:Int)) l.length (bh (by omega)) _ () false (fun i hi hp=> ?_) (fun i hi hp=> ?_) ?_
 ·have hb:qkb N l i=false:=by simpa using hp
  exact(hst i hi).trans (by rw[hb];rfl)
 ·have hb:qkb N l i=true:=by simpa using hp
  exact(hst i hi).trans (by rw[hb];rfl)
 ·simp(disch:=omega)only[ny,rs]
theorem q59{b:Bool}:(lk (bif b then(.inl ():Unit⊕Bool)else .inr false) (fun _=>some true) fun r=>some r)=some b:=by cases b<;>rfl
theorem qv(n:c8)(l:List Int)(h:l.length≤1000000):jt n l=some (qif n.1 l):=by
 unfold jt qif;rw[qlq n.1 n.2.1 n.2.2.1 n.2.2.2.1 l h,i4,q59]
theorem qfo(N:Int)(l:List Int)(h:l.length≤1000000):p2 N l=some (qif N l):=by
 unfold p2 qif;rw[qlv N [] 0 0 l h,i4,q59]
structure Small (n : c8) : Prop where
 trans : n.2.1.length ≤ 100
 ins : ∀ t ∈ n.2.1, t.2.1.length ≤ 60
 outs : ∀ t ∈ n.2.1, t.2.2.1.length ≤ 60
def qsn(N:Int)(t:ai):Bool:= !eqS t.1 ⟨#[]⟩&& !qq4 t.1|| !qif N t.2.1|| !qif N t.2.2.1
def db(n:c8):Bool:=decide (1≤n.1)&&decide (n.1≤40)&&decide (n.2.1.length≤60)&& !n.2.1.any (qsn n.1)&&(decide (0≤n.2.2.1)&&decide (n.2.2.1<n.1))&&(decide (0≤n.2.2.2.1)&&decide (n.2.2.2.1<n.1))
theorem qy3(N x:Int):qif N [x]=(decide (0≤x)&&decide (x<N)):=by
 unfold qif qkb;rw[Bool.eq_iff_iff];simp
theorem qgb{n:c8}(h:Small n):mz n=some (db n):=by
 have hL:qis n.2.1 (n.2.1.length:Int) n.1 n.2.1 n.2.2.1 n.2.2.2.1 0=some (bif n.2.1.any (qsn n.1)then .inr false else .inl ()):=by
  have hl:=h.trans;refine y7 n.2.1 ai.z (qsn n.1) false (by omega) (fun i hi=> ?_) ?_
  ·have h1:=h.ins _ (aw ai.z hi);have h2:=h.outs _ (aw ai.z hi);unfold qsn;simp(disch:=omega)only[q2o,s8,q32,rs];rw[qv _ _ (by omega),qv _ _ (by omega),aj];simp only[i4];cases eqS (n.2.1.getD i ai.z).1 ⟨#[]⟩<;>cases qq4 (n.2.1.getD i ai.z).1<;>cases qif n.1 (n.2.1.getD i ai.z).2.1<;>cases qif n.1 (n.2.1.getD i ai.z).2.2.1<;>rfl
  ·simp(disch:=omega)only[s8,rs]
 unfold mz db;rw[hL,qv _ _ (by simp),qv _ _ (by simp),qy3,qy3];have e1:decide (1≤n.1)= !decide (n.1<1):=by rw[Bool.eq_iff_iff];simp
 have e2:decide (n.1≤40)= !decide (40<n.1):=by rw[Bool.eq_iff_iff];simp
 have e3:decide (n.2.1.length≤60)= !decide ((60:Int)<(n.2.1.length:Int)):=by rw[Bool.eq_iff_iff];simp;omega
 rw[e1,e2,e3];cases decide (n.1<1)<;>cases decide (40<n.1)<;>cases decide ((60:Int)<(n.2.1.length:Int))<;>cases n.2.1.any (qsn n.1)<;>cases(decide (0≤n.2.2.1)&&decide (n.2.2.1<n.1))<;>cases(decide (0≤n.2.2.2.1)&&decide (n.2.2.2.1<n.1))<;>rfl
theorem qhg{n:c8}(h:Small n):qam n=some (db n):=by
 have hL:qi0 n.1 n.2.1 n.2.2.1 n.2.2.2.1 0=some (bif n.2.1.any (qsn n.1)then .inr false else .inl ()):=by
  have hl:=h.trans;refine y7 n.2.1 ai.z (qsn n.1) false (by omega) (fun i hi=> ?_) ?_
  ·have h1:=h.ins _ (aw ai.z hi);have h2:=h.outs _ (aw ai.z hi);unfold qsn;simp(disch:=omega)only[q2o,zl,qwo,rs];rw[qfo _ _ (by omega),qfo _ _ (by omega),aj];simp only[i4];cases eqS (n.2.1.getD i ai.z).1 ⟨#[]⟩<;>cases qq4 (n.2.1.getD i ai.z).1<;>cases qif n.1 (n.2.1.getD i ai.z).2.1<;>cases qif n.1 (n.2.1.getD i ai.z).2.2.1<;>rfl
  ·simp(disch:=omega)only[zl,rs]
 unfold qam db;rw[hL];have e1:decide (1≤n.1)= !decide (n.1<1):=by rw[Bool.eq_iff_iff];simp
 have e2:decide (n.1≤40)= !decide (40<n.1):=by rw[Bool.eq_iff_iff];simp
 have e3:decide (n.2.1.length≤60)= !decide ((60:Int)<(n.2.1.length:Int)):=by rw[Bool.eq_iff_iff];simp;omega
 have e4:∀x:Int,decide (0≤x)= !decide (x<0):=fun x=>by rw[Bool.eq_iff_iff];simp
 have e5:∀x:Int,decide (x<n.1)= !decide (n.1≤x):=fun x=>by rw[Bool.eq_iff_iff];simp
 rw[e1,e2,e3,e4 n.2.2.1,e4 n.2.2.2.1,e5 n.2.2.1,e5 n.2.2.2.1];cases decide (n.1<1)<;>cases decide (40<n.1)<;>cases decide ((60:Int)<(n.2.1.length:Int))<;>cases n.2.1.any (qsn n.1)<;>cases decide (n.2.2.1<0)<;>cases decide (n.1≤n.2.2.1)<;>cases decide (n.2.2.2.1<0)<;>cases decide (n.1≤n.2.2.2.1)<;>rfl
theorem qr5{N:Int}{l:List Int}:qif N l=true↔(∀x∈l,0≤x∧x<N)∧l.Pairwise (·<·):=by
 unfold qif;rw[List.all_eq_true];constructor
 ·intro h;have hq:∀i,i<l.length→(0≤l.getD i 0∧l.getD i 0<N)∧(0<i→l.getD (i-1) 0<l.getD i 0):=fun i hi=>by
   have:=h i (List.mem_range.2 hi);unfold qkb at this;simp only[Bool.not_eq_true',Bool.or_eq_false_iff,Bool.and_eq_false_iff,decide_eq_false_iff_not]at this;refine⟨by omega,fun h0=> ?_⟩;rcases this.2 with h1|h1
   ·exact absurd h0 h1
   ·omega
  refine⟨fun x hx=> ?_,List.pairwise_iff_getElem.2 fun i j hi hj hij=> ?_⟩
  ·obtain⟨i,hi,rfl⟩:=i5 0 hx;exact(hq i hi).1
  ·have key:∀d,∀j,j=i+1+d→j<l.length→l.getD i 0<l.getD j 0:=by
    intro d
    induction d with
    |zero=>intro j hj hl;subst hj;exact(hq (i+1) hl).2 (by omega)
    |succ d ih=>
     intro j hj hl;have h1:=ih (i+1+d) rfl (by omega);have h2:=(hq j hl).2 (by omega);rw[show j-1=i+1+d by omega]at h2;omega
   have:=key (j-i-1) j (by omega) hj;rwa[ky l i 0 hi,ky l j 0 hj]at this
 ·rintro⟨h1,h2⟩ i hi;have hi:=List.mem_range.1 hi;have hb:=h1 _ (aw 0 hi);unfold qkb;simp only[Bool.not_eq_true',Bool.or_eq_false_iff,Bool.and_eq_false_iff,decide_eq_false_iff_not];refine⟨by omega,?_⟩;by_cases h0:0<i
  ·right;have:=List.pairwise_iff_getElem.1 h2 (i-1) i (by omega) hi (by omega);rw[ky l i 0 hi,ky l (i-1) 0 (by omega)];omega
  ·exact .inl h0
theorem qxb(l:List Int)(h:l.length≤1000000):f6 l=some l:=by
 unfold f6 j1;simp(disch:=omega)only[List.nil_append,rs]
end Go.Proofs.Ytokeielgplbdeaa
