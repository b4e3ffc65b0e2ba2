/-
  Roles: organisations, roles, duties, by the program and by the reference.
-/
import Derived.Test.YtmlfmeffjodhmaaZ6S1
set_option linter.all false
namespace Go.Proofs.Ytmlfmeffjodhmaa
open Go.K Go.M
structure Few (o : jo) : Prop where
 people : o.1.length ≤ 100
 dele : o.2.1.length ≤ 100
 duty : o.2.2.1.length ≤ 100
 roles : ∀ p ∈ o.1, p.2.1.length ≤ 100
def pix(o:jo)(s:ByteArray):Int:=qej (fun p:af=>xn p.1 s) o.1
theorem qeg(o:jo)(h:o.1.length≤100)(s:ByteArray):ly o s=some (pix o s):=by
 have hL:fx o.1 s (o.1.length:Int) 0=some (z7 (fun i=>(i:Int)) (nc (fun p:af=>xn p.1 s) o.1)):=by
  refine fj o.1 af.z (fun p:af=>xn p.1 s) (fun i=>(i:Int)) (by omega) (fun i hi=> ?_) ?_
  ·simp(disch:=omega)only[ax,bu,yv,rs];rw[bh];exact lw
  ·simp(disch:=omega)only[ax,bu,rs]
 unfold ly da;rw[hL,bj,mb,bj];rfl
theorem ur(o:jo)(h:o.1.length≤100)(s:ByteArray):lj o s=some (pix o s):=by
 have hL:qa0 s o.1 o.2.1 o.2.2.1 0=some (z7 (fun i=>(i:Int)) (nc (fun p:af=>xn p.1 s) o.1)):=by
  refine fj o.1 af.z (fun p:af=>xn p.1 s) (fun i=>(i:Int)) (by omega) (fun i hi=> ?_) ?_
  ·simp(disch:=omega)only[ax,t9,rs];rw[bh];exact lw
  ·simp(disch:=omega)only[ax,t9,rs]
 unfold lj;rw[hL,bj,mb];rfl
theorem qov(l:List ByteArray)(h:l.length≤100)(s:ByteArray):wc l s=some (qej (fun r=>xn s r) l):=by
 have hL:qcq l s 0=some (z7 (fun i=>(i:Int)) (nc (fun r=>xn s r) l)):=by
  refine fj l ⟨#[]⟩ (fun r=>xn s r) (fun i=>(i:Int)) (by omega) (fun i hi=> ?_) ?_
  ·have:=qvr s (l.getD i ⟨#[]⟩);simp(disch:=omega)only[ax,vb,rs];rw[bh,this];exact lw
  ·simp(disch:=omega)only[ax,vb,rs]
 unfold wc;rw[hL,bj,mb]
theorem qou(l:List ByteArray)(h:l.length≤100)(s:ByteArray):er l s=some (l.any fun r=>xn s r):=by
 have hL:nu l s (l.length:Int) 0=some (z7 (fun i=>(i:Int)) (nc (fun r=>xn s r) l)):=by
  refine fj l ⟨#[]⟩ (fun r=>xn s r) (fun i=>(i:Int)) (by omega) (fun i hi=> ?_) ?_
  ·simp(disch:=omega)only[ax,eu,rs];rw[bh];exact lw
  ·simp(disch:=omega)only[ax,eu,rs]
 unfold er lb;rw[hL,bj,mb,bj,qr]
def qfw(l:List af)(i:Nat):Bool:= !ci (l.getD i af.z).1||decide (0<i)&& !qar (l.getD (i-1) af.z).1 (l.getD i af.z).1|| !yc (l.getD i af.z).2.1
def qe4(l:List af):Bool:=decide (l.length≤40)&&(List.range l.length).all fun i=> !qfw l i
theorem qui(l:List af)(h:l.length≤100):uq l=some (qe4 l):=by
 have hL:qbj l l (l.length:Int) 0=some (bif (List.range l.length).all (fun i=> !qfw l i)then .inl ()else .inr false):=by
  have hst:∀i:Nat,i<l.length→lg (R:=LR Int Unit Bool) l l (l.length:Int) (i:Int) (fun a' =>some (.next a')) (fun e=>some (.done e)) (fun r=>some (.ret r))=some (bif qfw l i then .ret false else .next ((i+1:Nat):Int)):=fun i hi=>by
   unfold qfw qar;by_cases h0:0<i
   ·have e:(i:Int)-1=((i-1:Nat):Int):=by omega
    have h0' :(0:Int)<(i:Int):=by omega
    rw[decide_eq_true h0];simp(disch:=omega)only[ax,lg,pi,qg7,e,rs];rw[bh];cases ci (l.getD i af.z).1<;>cases Op.bytesLess (l.getD (i-1) af.z).1.toList (l.getD i af.z).1.toList<;>cases yc (l.getD i af.z).2.1<;>rfl
   ·have h0' :¬(0:Int)<(i:Int):=by omega
    rw[decide_eq_false h0];simp(disch:=omega)only[ax,lg,pi,qg7,rs];rw[bh];cases ci (l.getD i af.z).1<;>cases yc (l.getD i af.z).2.1<;>rfl
  refine xt (fun i:Nat=>(i:Int)) l.length (uk (by omega)) _ () false (fun i hi hp=> ?_) (fun i hi hp=> ?_) ?_
  ·have hb:qfw l i=false:=by simpa using hp
   exact(hst i hi).trans (by rw[hb];rfl)
  ·have hb:qfw l i=true:=by simpa using hp
   exact(hst i hi).trans (by rw[hb];rfl)
  ·simp(disch:=omega)only[ax,lg,rs]
 unfold uq qe4;rw[hL,bj];have e:decide ((l.length:Int)≤40)=decide (l.length≤40):=decide_eq_decide.2 (by omega);rw[e];cases(List.range l.length).all (fun i=> !qfw l i)with
 |true=>simp
 |false=>simp
theorem qnz(o:jo)(h:o.1.length≤100):qct o.1 o.2.1 o.2.2.1 0=some (bif (List.range o.1.length).all (fun i=> !qfw o.1 i)then .inl ()else .inr false):=by
 have hst:∀i:Nat,i<o.1.length→pd (R:=LR Int Unit Bool) o.1 o.2.1 o.2.2.1 (i:Int) (fun a' =>some (.next a')) (fun e=>some (.done e)) (fun r=>some (.ret r))=some (bif qfw o.1 i then .ret false else .next ((i+1:Nat):Int)):=fun i hi=>by
  unfold qfw qar;by_cases h0:0<i
  ·have e:(i:Int)-1=((i-1:Nat):Int):=by omega
   have h0' :(0:Int)<(i:Int):=by omega
   rw[decide_eq_true h0];simp(disch:=omega)only[ax,pd,ll,qa4,e,rs];rw[bh];cases ci (o.1.getD i af.z).1<;>cases Op.bytesLess (o.1.getD (i-1) af.z).1.toList (o.1.getD i af.z).1.toList<;>cases yc (o.1.getD i af.z).2.1<;>rfl
  ·have h0' :¬(0:Int)<(i:Int):=by omega
   rw[decide_eq_false h0];simp(disch:=omega)only[ax,pd,ll,qa4,rs];rw[bh];cases ci (o.1.getD i af.z).1<;>cases yc (o.1.getD i af.z).2.1<;>rfl
 refine xt (fun i:Nat=>(i:Int)) o.1.length (uk (by omega)) _ () false (fun i hi hp=> ?_) (fun i hi hp=> ?_) ?_
 ·have hb:qfw o.1 i=false:=by simpa using hp
  exact(hst i hi).trans (by rw[hb];rfl)
 ·have hb:qfw o.1 i=true:=by simpa using hp
  exact(hst i hi).trans (by rw[hb];rfl)
 ·simp(disch:=omega)only[ax,pd,rs]
def qmd(s:qh3):Bool:=decide (0≤s.1)&&decide (s.1<s.2.1)&&decide (s.2.1≤1099511627776)
theorem qd0(s:qh3):qq s=some (qmd s):=by
 unfold qq qmd;cases decide ((0:Int)≤s.1)<;>cases decide (s.1<s.2.1)<;>rfl
theorem qh9(s:qh3):zk s=some (qmd s):=qd0 s
def qh4(o:jo)(d:ab):Bool:=decide (pix o d.1<0)||decide (pix o d.2.1<0)||xn d.1 d.2.1|| !ci d.2.2.1|| !qmd d.2.2.2.1
def qi1(d:ak):Bool:= !decide (d.1=1)&& !decide (d.1=2)|| !ci d.2.1|| !ci d.2.2.1
def na(o:jo):Bool:=qe4 o.1&& !o.2.1.any (qh4 o)&& !o.2.2.1.any qi1
theorem qtj(o:jo)(h:o.1.length≤100)(d:ab):td d o=some (qh4 o d):=by
 unfold td qh4;simp(disch:=omega)only[ax,qeg o h,pi,qd0,rs];cases decide (pix o d.1<0)<;>cases decide (pix o d.2.1<0)<;>cases xn d.1 d.2.1<;>cases ci d.2.2.1<;>cases qmd d.2.2.2.1<;>rfl
theorem qtk(d:ak):te d=some (qi1 d):=by
 unfold te qi1;rw[pi,pi];cases decide (d.1=1)<;>cases decide (d.1=2)<;>cases ci d.2.1<;>cases ci d.2.2.1<;>rfl
theorem qw7(o:jo)(h:o.1.length≤100)(l:List ab)(hl:l.length≤100):a7 l o=some (l.any (qh4 o)):=by
 have hL:dq l o (l.length:Int) 0=some (z7 (fun i=>(i:Int)) (nc (qh4 o) l)):=by
  refine fj l ab.z (qh4 o) (fun i=>(i:Int)) (by omega) (fun i hi=> ?_) ?_
  ·simp(disch:=omega)only[ax,a9,qtj o h,rs];rw[bh];exact lw
  ·simp(disch:=omega)only[ax,a9,rs]
 unfold a7 cf;rw[hL,bj,mb,bj,qr]
theorem qw8(l:List ak)(hl:l.length≤100):bz l=some (l.any qi1):=by
 have hL:ic l (l.length:Int) 0=some (z7 (fun i=>(i:Int)) (nc qi1 l)):=by
  refine fj l ak.z qi1 (fun i=>(i:Int)) (by omega) (fun i hi=> ?_) ?_
  ·simp(disch:=omega)only[ax,b8,qtk,rs];rw[bh];exact lw
  ·simp(disch:=omega)only[ax,b8,rs]
 unfold bz ee;rw[hL,bj,mb,bj,qr]
theorem qd1{o:jo}(h:Few o):m3 o=some (na o):=by
 have h1:=h.people;have h2:=h.dele;have h3:=h.duty;unfold m3 na;simp(disch:=omega)only[ax,qui o.1 h1,qw7 o h1 o.2.1 h2,qw8 o.2.2.1 h3,rs];cases qe4 o.1<;>cases o.2.1.any (qh4 o)<;>cases o.2.2.1.any qi1<;>rfl
theorem qa5{o:jo}(h:Few o):qa1 o=some (na o):=by
 have h1:=h.people;have h2:=h.dele;have h3:=h.duty;have hL0:=qnz o h1;have hL1:qcu o.1 o.2.1 o.2.2.1 0=some (bif o.2.1.any (qh4 o)then .inr false else .inl ()):=by
  refine sw o.2.1 ab.z (qh4 o) false (by omega) (fun i hi=> ?_) ?_
  ·have e:((o.1,o.2.1,o.2.2.1,()):jo)=o:=rfl;unfold qh4;simp(disch:=omega)only[ax,ve,e,ur o h1,ll,qh9,rs];rw[bh];cases decide (pix o (o.2.1.getD i ab.z).1<0)<;>cases decide (pix o (o.2.1.getD i ab.z).2.1<0)<;>cases xn (o.2.1.getD i ab.z).1 (o.2.1.getD i ab.z).2.1<;>cases ci (o.2.1.getD i ab.z).2.2.1<;>cases qmd (o.2.1.getD i ab.z).2.2.2.1<;>rfl
  ·simp(disch:=omega)only[ax,ve,rs]
 have hL2:qcv o.1 o.2.1 o.2.2.1 0=some (bif o.2.2.1.any qi1 then .inr false else .inl ()):=by
  refine sw o.2.2.1 ak.z qi1 false (by omega) (fun i hi=> ?_) ?_
  ·unfold qi1;simp(disch:=omega)only[ax,vf,ll,rs];rw[bh];cases decide ((o.2.2.1.getD i ak.z).1=1)<;>cases decide ((o.2.2.1.getD i ak.z).1=2)<;>cases ci (o.2.2.1.getD i ak.z).2.1<;>cases ci (o.2.2.1.getD i ak.z).2.2.1<;>rfl
  ·simp(disch:=omega)only[ax,vf,rs]
 unfold qa1 na qe4;by_cases hp:40<(o.1.length:Int)
 ·have:¬o.1.length≤40:=by omega
  simp(disch:=omega)only[ax,rs];rw[decide_eq_false this];rfl
 ·have hp' :o.1.length≤40:=by omega
  rw[decide_eq_true hp'];simp(disch:=omega)only[ax,hL0,hL1,hL2,rs];cases(List.range o.1.length).all (fun i=> !qfw o.1 i)<;>cases o.2.1.any (qh4 o)<;>cases o.2.2.1.any qi1<;>rfl
def qp1(o:jo)(s role:ByteArray):Bool:=(o.1.getD (pix o s).toNat af.z).2.1.any fun r=>xn role r
def byD(o:jo)(person role:ByteArray)(time:Int)(d:ab):Bool:=xn d.2.1 person&&xn d.2.2.1 role&&decide (d.2.2.2.1.1≤time)&&decide (time<d.2.2.2.1.2.1)&&qp1 o d.1 role
def qmx(o:jo)(person role:ByteArray)(time:Int):Bool:=qp1 o person role||o.2.1.any (byD o person role time)
theorem qrj{o:jo}{s:ByteArray}(h:0≤pix o s):(pix o s).toNat<o.1.length:=(qx1 af.z h).1
theorem qkz{o:jo}(h:na o=true){d:ab}(hd:d∈o.2.1):0≤pix o d.1:=by
 unfold na at h;simp only[Bool.and_eq_true,Bool.not_eq_true']at h;have:=List.any_eq_false.1 h.1.2 d hd;unfold qh4 at this;simp only[Bool.or_eq_true,decide_eq_true_eq,not_or]at this;omega
theorem qsp{o:jo}(h:Few o){s:ByteArray}(hs:0≤pix o s)(role:ByteArray):tv s o role=some (qp1 o s role):=by
 have h1:=qrj hs;have h2:=h.roles _ (j1 af.z h1);unfold tv qp1;simp(disch:=omega)only[ax,qeg o h.people,qou _ h2,rs]
theorem q16{o:jo}(h:Few o)(hv:na o=true){person:ByteArray}(hp:0≤pix o person)(role:ByteArray)(time:Int):x3 o person role time=some (qmx o person role time):=by
 have hd:=h.dele;have hL:c7 o.2.1 person time (o.2.1.length:Int) (0,role,o.1,o.2.1,o.2.2.1)=some (match nc (byD o person role time) o.2.1 with|some i=> .inr ((i:Int),role,o.1,o.2.1,o.2.2.1)|none=> .inl (role,o.1,o.2.1,o.2.2.1)):=by
  have hst:∀i:Nat,i<o.2.1.length→ao (R:=LR (Int×ByteArray×(List af)×(List ab)×(List ak)) (ByteArray×(List af)×(List ab)×(List ak)) (Int×ByteArray×(List af)×(List ab)×(List ak))) o.2.1 person time (o.2.1.length:Int) (i:Int) role o.1 o.2.1 o.2.2.1 (fun a' =>some (.next a')) (fun e=>some (.done e)) (fun r=>some (.ret r))=some (bif byD o person role time (o.2.1.getD i ab.z)then .ret ((i:Int),role,o.1,o.2.1,o.2.2.1)else .next (((i+1:Nat):Int),role,o.1,o.2.1,o.2.2.1)):=fun i hi=>by
   have hf:=qsp h (qkz hv (j1 ab.z hi)) role;have e:((o.1,o.2.1,o.2.2.1,()):jo)=o:=rfl;unfold byD;simp(disch:=omega)only[ax,ao,vm,e,hf,rs];rw[bh];cases xn (o.2.1.getD i ab.z).2.1 person<;>cases xn (o.2.1.getD i ab.z).2.2.1 role<;>cases decide ((o.2.1.getD i ab.z).2.2.2.1.1≤time)<;>cases decide (time<(o.2.1.getD i ab.z).2.2.2.1.2.1)<;>cases qp1 o (o.2.1.getD i ab.z).1 role<;>rfl
  cases hf:nc (byD o person role time) o.2.1 with
  |none=>
   refine u6 (fun i:Nat=>((i:Int),role,o.1,o.2.1,o.2.2.1)) o.2.1.length (uk (by omega)) (.inl _) (fun i hi=> ?_) ?_
   ·exact(hst i hi).trans (by rw[qf8 hf _ (j1 _ hi)];rfl)
   ·simp(disch:=omega)only[ax,ao,rs]
  |some k=>
   obtain⟨k1,k2,k3⟩:=qbs ab.z hf;refine qdo (fun i:Nat=>((i:Int),role,o.1,o.2.1,o.2.2.1)) k (uk (by omega)) (.ret _) (.inr _) rfl (fun i hi=> ?_) ?_
   ·exact(hst i (by omega)).trans (by rw[k3 i hi];rfl)
   ·exact(hst k k1).trans (by rw[k2];rfl)
 unfold x3 qmx bq bx;rw[qsp h hp,bj,hL,bj,←qag];cases qp1 o person role with
 |true=>rfl
 |false=>
  cases nc (byD o person role time) o.2.1 with
  |none=>rfl
  |some i=>
   have:decide ((0:Int)≤(i:Int))=true:=decide_eq_true (by omega);simp[qv8,bj]
theorem quj{o:jo}(h:Few o)(hv:na o=true){person:ByteArray}(hp:0≤pix o person)(role:ByteArray)(time:Int):qgo o person role time=some (qmx o person role time):=by
 have hd:=h.dele;have h1:=qrj hp;have h2:=h.roles _ (j1 af.z h1);have hL:qhm person role time o.1 o.2.1 o.2.2.1 0=some (bif o.2.1.any (byD o person role time)then .inr true else .inl ()):=by
  refine sw o.2.1 ab.z (byD o person role time) true (by omega) (fun i hi=> ?_) ?_
  ·have hf:=qkz hv (j1 ab.z hi);have hf1:=qrj hf;have hf2:=h.roles _ (j1 af.z hf1);have e:((o.1,o.2.1,o.2.2.1,()):jo)=o:=rfl;unfold byD qp1;simp(disch:=omega)only[ax,yr,e,ur o h.people,qov _ hf2,qr,rs];rw[bh];cases xn (o.2.1.getD i ab.z).2.1 person<;>cases xn (o.2.1.getD i ab.z).2.2.1 role<;>cases decide ((o.2.1.getD i ab.z).2.2.2.1.1≤time)<;>cases decide (time<(o.2.1.getD i ab.z).2.2.2.1.2.1)<;>cases(o.1.getD (pix o (o.2.1.getD i ab.z).1).toNat af.z).2.1.any (fun r=>xn role r)<;>rfl
  ·simp(disch:=omega)only[ax,yr,rs]
 unfold qgo qmx qp1;simp(disch:=omega)only[ax,ur o h.people,qov _ h2,qr,hL,rs];cases(o.1.getD (pix o person).toNat af.z).2.1.any (fun r=>xn role r)<;>cases o.2.1.any (byD o person role time)<;>rfl
def q2e(d:ak)(t:aq)(act:ByteArray):Bool:=xn act d.2.1&&xn t.1 d.2.2.1||xn act d.2.2.1&&xn t.1 d.2.1
def qdd(d:ak)(act person:ByteArray)(t:aq):Bool:=q2e d t act&&(decide (d.1=1)==xn t.2.1 person)
def qxk(o:jo)(person act:ByteArray)(hs:List aq):Int:=qej (fun d:ak=>hs.any (qdd d act person)) o.2.2.1
theorem q0i(t:aq)(act:ByteArray)(d:ak)(person:ByteArray):pq t act d person=some (qdd d act person t):=by
 unfold pq qdd q2e;simp(disch:=omega)only[ax,g9,p8,rs];cases decide (d.1=1)<;>cases xn act d.2.1<;>cases xn t.1 d.2.2.1<;>cases xn act d.2.2.1<;>cases xn t.1 d.2.1<;>cases xn t.2.1 person<;>rfl
theorem qtr{o:jo}(h:Few o)(person act:ByteArray)(hs:List aq)(hl:hs.length≤2000):ru o person act hs=some (qxk o person act hs):=by
 have hd:=h.duty;have hB:∀d:ak,rv d hs act person=some (hs.any (qdd d act person)):=fun d=>by
  have hL:ip hs act d person (hs.length:Int) 0=some (z7 (fun i=>(i:Int)) (nc (qdd d act person) hs)):=by
   refine fj hs aq.z (qdd d act person) (fun i=>(i:Int)) (by omega) (fun i hi=> ?_) ?_
   ·simp(disch:=omega)only[ax,cd,q0i,rs];rw[bh];exact lw
   ·simp(disch:=omega)only[ax,cd,rs]
  unfold rv dj en;rw[hL,bj,mb,bj,bj,qr];rfl
 have hL:ig o.2.2.1 hs act person (o.2.2.1.length:Int) 0=some (z7 (fun i=>(i:Int)) (nc (fun d:ak=>hs.any (qdd d act person)) o.2.2.1)):=by
  refine fj o.2.2.1 ak.z (fun d:ak=>hs.any (qdd d act person)) (fun i=>(i:Int)) (by omega) (fun i hi=> ?_) ?_
  ·simp(disch:=omega)only[ax,b9,hB,rs];rw[bh];exact lw
  ·simp(disch:=omega)only[ax,b9,rs]
 unfold ru eh;rw[hL,bj,mb,bj];rfl
theorem qny{o:jo}(h:Few o)(person act:ByteArray)(hs:List aq)(hl:hs.length≤2000):yq o person act hs=some (qxk o person act hs):=by
 have hd:=h.duty;have hL1:∀(i:Int) (d:ak),qa2 person act hs i o.1 o.2.1 o.2.2.1 d.1 d.2.1 d.2.2.1 0=some (bif hs.any (qdd d act person)then .inr i else .inl ()):=fun i d=>by
  refine sw hs aq.z (qdd d act person) i (by omega) (fun k hk=> ?_) ?_
  ·unfold qdd q2e;simp(disch:=omega)only[ax,ua,mg,zl,rs];rw[bh];cases(decide (d.1=1)==xn (hs.getD k aq.z).2.1 person)<;>cases xn act d.2.1<;>cases xn (hs.getD k aq.z).1 d.2.2.1<;>cases xn act d.2.2.1<;>cases xn (hs.getD k aq.z).1 d.2.1<;>rfl
  ·simp(disch:=omega)only[ax,ua,rs]
 have hL2:qa3 person act hs o.1 o.2.1 o.2.2.1 0=some (z7 (fun i=>(i:Int)) (nc (fun d:ak=>hs.any (qdd d act person)) o.2.2.1)):=by
  refine fj o.2.2.1 ak.z (fun d:ak=>hs.any (qdd d act person)) (fun i=>(i:Int)) (by omega) (fun i hi=> ?_) ?_
  ·simp(disch:=omega)only[ax,ub,hL1,rs];rw[bh];cases hs.any (qdd (o.2.2.1.getD i ak.z) act person)<;>rfl
  ·simp(disch:=omega)only[ax,ub,rs]
 unfold yq;rw[hL2,bj,mb];rfl
def qak(t:Int):Bool:=decide (0≤t)&&decide (t≤1099511627776)
theorem qdi(t:Int):nz t=some (qak t):=by
 unfold nz qak;cases decide ((0:Int)≤t)<;>rfl
theorem qcx(t:Int):qcw t=some (qak t):=qdi t
theorem qpw(l:List ByteArray)(hl:l.length≤1000):m4 l=some (l.all ci):=by
 have hL:kj l (l.length:Int) 0=some (z7 (fun i=>(i:Int)) (nc (fun s=> !ci s) l)):=by
  refine fj l ⟨#[]⟩ (fun s=> !ci s) (fun i=>(i:Int)) (by omega) (fun i hi=> ?_) ?_
  ·simp(disch:=omega)only[ax,cn,xc,pi,rs];rw[bh];cases ci (l.getD i ⟨#[]⟩)<;>rfl
  ·simp(disch:=omega)only[ax,cn,rs]
 unfold m4 ep fq;have:l.all ci= !l.any (fun s=> !ci s):=by rw[List.not_any_eq_all_not];simp
 rw[hL,bj,mb,bj,bj,qr,this]
def qfx(o:jo)(t:aq):Bool:= !ci t.1||decide (pix o t.2.1<0)
def va(o:jo)(hs:List aq):Int:=if 1000<hs.length then 5 else if hs.any (qfx o)=true then 8 else 0
theorem qya{o:jo}(h:Few o)(hs:List aq)(hl:hs.length≤2000):s5 o hs=some (va o hs):=by
 have hT:∀t:aq,uo t o=some (qfx o t):=fun t=>by
  unfold uo qfx;simp(disch:=omega)only[ax,pi,qeg o h.people,rs];cases ci t.1<;>rfl
 have hL:im hs o (hs.length:Int) 0=some (z7 (fun i=>(i:Int)) (nc (qfx o) hs)):=by
  refine fj hs aq.z (qfx o) (fun i=>(i:Int)) (by omega) (fun i hi=> ?_) ?_
  ·simp(disch:=omega)only[ax,cb,hT,rs];rw[bh];exact lw
  ·simp(disch:=omega)only[ax,cb,rs]
 unfold s5 va di em;by_cases hb:1000<(hs.length:Int)
 ·have:1000<hs.length:=by omega
  simp(disch:=omega)only[ax,rs];rw[if_pos this]
 ·have:¬1000<hs.length:=by omega
  rw[if_neg this,hL,bj,mb,bj,bj,qr];simp(disch:=omega)only[ax,rs];cases hs.any (qfx o)<;>rfl
theorem qrl{o:jo}(h:Few o)(hs:List aq)(hl:hs.length≤2000):qdr o hs=some (va o hs):=by
 have hL:qe6 hs o.1 o.2.1 o.2.2.1 0=some (bif hs.any (qfx o)then .inr 8 else .inl ()):=by
  refine sw hs aq.z (qfx o) 8 (by omega) (fun i hi=> ?_) ?_
  ·have e:((o.1,o.2.1,o.2.2.1,()):jo)=o:=rfl;unfold qfx;simp(disch:=omega)only[ax,w9,ll,e,ur o h.people,rs];rw[bh];cases ci (hs.getD i aq.z).1<;>cases decide (pix o (hs.getD i aq.z).2.1<0)<;>rfl
  ·simp(disch:=omega)only[ax,w9,rs]
 unfold qdr va;by_cases hb:1000<(hs.length:Int)
 ·have:1000<hs.length:=by omega
  simp(disch:=omega)only[ax,rs];rw[if_pos this]
 ·have:¬1000<hs.length:=by omega
  rw[if_neg this];simp(disch:=omega)only[ax,hL,rs];cases hs.any (qfx o)<;>rfl
def xx(o:jo)(person act role:ByteArray)(time:Int)(hs:List aq):Bool:=qmx o person role time&&decide (qxk o person act hs<0)
theorem q2b{o:jo}(h:Few o)(hv:na o=true){person:ByteArray}(hp:0≤pix o person)(act role:ByteArray)(time:Int)(hs:List aq)(hl:hs.length≤2000):x5 o person act role time hs=some (xx o person act role time hs):=by
 unfold x5 xx;rw[q16 h hv hp,bj,qtr h person act hs hl];cases qmx o person role time<;>rfl
theorem quk{o:jo}(h:Few o)(hv:na o=true){person:ByteArray}(hp:0≤pix o person)(act role:ByteArray)(time:Int)(hs:List aq)(hl:hs.length≤2000):qgp o person act role time hs=some (xx o person act role time hs):=by
 unfold qgp xx;rw[quj h hv hp,bj,qny h person act hs hl];cases qmx o person role time<;>rfl
end Go.Proofs.Ytmlfmeffjodhmaa
