/-
  Roles: Has, Forbids, Allowed, Check: the laws RolesHave, RolesDuties, RolesChecks.
-/
import Derived.Test.YtmlfmeffjodhmaaZ6S2
set_option linter.all false
namespace Go.Proofs.Ytmlfmeffjodhmaa
open Go.K Go.M
def qg6(l:List ByteArray):Bool:=decide ((l.length:Int)≤50)&& !l.any fun s=>decide ((100:Int)<(s.size:Int))
theorem qqh(l:List ByteArray):tq l=some (qg6 l):=by
 unfold tq qg6;by_cases h:(l.length:Int)≤50
 ·have hL:kg l (l.length:Int) 0=some (z7 (fun i=>(i:Int)) (nc (fun s:ByteArray=>decide ((100:Int)<(s.size:Int))) l)):=by
   refine fj l ⟨#[]⟩ (fun s:ByteArray=>decide ((100:Int)<(s.size:Int))) (fun i=>(i:Int)) (by omega) (fun i hi=> ?_) ?_
   ·simp(disch:=omega)only[cm,wy,rs];rw[bh];exact lw
   ·simp(disch:=omega)only[cm,rs]
  have hC:cl l=some (l.any fun s:ByteArray=>decide ((100:Int)<(s.size:Int))):=by
   unfold cl fp;rw[hL,bj,mb,bj,qr]
  rw[decide_eq_true h];simp(disch:=omega)only[hC,rs];rfl
 ·rw[decide_eq_false h];rfl
theorem quz{l:List ByteArray}(h:qg6 l=true):l.length≤50:=by
 unfold qg6 at h;simp only[Bool.and_eq_true,decide_eq_true_eq]at h;omega
theorem qxx(p:af):∃b,q0 p=some b∧(b=false→p.2.1.length≤50):=by
 unfold q0;rw[qqh,bj];cases h:qg6 p.2.1 with
 |false=>exact⟨true,rfl,fun h=>by cases h⟩
 |true=>exact⟨_,rfl,fun _=>quz h⟩
def xo(p:af):Bool:=(q0 p).getD true
theorem qvs(p:af):q0 p=some (xo p)∧(xo p=false→p.2.1.length≤50):=by
 obtain⟨b,h1,h2⟩:=qxx p;unfold xo;rw[h1];exact⟨rfl,h2⟩
def qed(d:ab):Bool:=decide ((100:Int)<(d.1.size:Int))||decide ((100:Int)<(d.2.1.size:Int))||decide ((100:Int)<(d.2.2.1.size:Int))
theorem qxy(d:ab):v7 d=some (qed d):=by
 unfold v7 qed;cases decide ((100:Int)<(d.1.size:Int))<;>cases decide ((100:Int)<(d.2.1.size:Int))<;>rfl
def qee(d:ak):Bool:=decide ((100:Int)<(d.2.1.size:Int))||decide ((100:Int)<(d.2.2.1.size:Int))
theorem qxz(d:ak):v8 d=some (qee d):=by
 unfold v8 qee;cases decide ((100:Int)<(d.2.1.size:Int))<;>rfl
theorem q0y(o:jo):∃b,su o=some b∧(b=true→Few o):=by
 have h1:o.1.length≤100→az o.1=some (o.1.any xo):=fun hl=>by
  have hL:fv o.1 (o.1.length:Int) 0=some (z7 (fun i=>(i:Int)) (nc xo o.1)):=by
   refine fj o.1 af.z xo (fun i=>(i:Int)) (by omega) (fun i hi=> ?_) ?_
   ·have:=(qvs (o.1.getD i af.z)).1;simp(disch:=omega)only[bt,this,rs];rw[bh];exact lw
   ·simp(disch:=omega)only[bt,rs]
  unfold az c9;rw[hL,bj,mb,bj,qr]
 have h2:o.2.1.length≤100→ar o.2.1=some (o.2.1.any qed):=fun hl=>by
  have hL:dm o.2.1 (o.2.1.length:Int) 0=some (z7 (fun i=>(i:Int)) (nc qed o.2.1)):=by
   refine fj o.2.1 ab.z qed (fun i=>(i:Int)) (by omega) (fun i hi=> ?_) ?_
   ·simp(disch:=omega)only[a8,qxy,rs];rw[bh];exact lw
   ·simp(disch:=omega)only[a8,rs]
  unfold ar ce;rw[hL,bj,mb,bj,qr]
 have h3:o.2.2.1.length≤100→bm o.2.2.1=some (o.2.2.1.any qee):=fun hl=>by
  have hL:ia o.2.2.1 (o.2.2.1.length:Int) 0=some (z7 (fun i=>(i:Int)) (nc qee o.2.2.1)):=by
   refine fj o.2.2.1 ak.z qee (fun i=>(i:Int)) (by omega) (fun i hi=> ?_) ?_
   ·simp(disch:=omega)only[b7,qxz,rs];rw[bh];exact lw
   ·simp(disch:=omega)only[b7,rs]
  unfold bm ed;rw[hL,bj,mb,bj,qr]
 have hF:o.1.length≤100→o.2.1.length≤100→o.2.2.1.length≤100→(!o.1.any xo)=true→Few o:=fun a b c d=>⟨a,b,c,fun p hp=>by
  have h0:o.1.any xo=false:=by simpa using d
  have h4:xo p=false:=by
   have:=List.any_eq_false.1 h0 p hp;simpa using this
  have:=(qvs p).2 h4;omega⟩
 unfold su;by_cases c1:(o.1.length:Int)≤12
 ·by_cases c2:(o.2.1.length:Int)≤20
  ·by_cases c3:(o.2.2.1.length:Int)≤20
   ·refine⟨!o.1.any xo&& !o.2.1.any qed&& !o.2.2.1.any qee,?_,fun hb=> ?_⟩
    ·simp(disch:=omega)only[h1 (by omega),h2 (by omega),h3 (by omega),rs];cases o.1.any xo<;>cases o.2.1.any qed<;>cases o.2.2.1.any qee<;>rfl
    ·simp only[Bool.and_eq_true]at hb;exact hF (by omega) (by omega) (by omega) hb.1.1
   ·exact⟨false,by simp(disch:=omega)only[rs],fun h=>by cases h⟩
  ·exact⟨false,by simp(disch:=omega)only[rs],fun h=>by cases h⟩
 ·by_cases c4:40<(o.1.length:Int)
  ·by_cases c5:(o.1.length:Int)<45
   ·by_cases c2:(o.2.1.length:Int)≤20
    ·by_cases c3:(o.2.2.1.length:Int)≤20
     ·refine⟨!o.1.any xo&& !o.2.1.any qed&& !o.2.2.1.any qee,?_,fun hb=> ?_⟩
      ·simp(disch:=omega)only[h1 (by omega),h2 (by omega),h3 (by omega),rs];cases o.1.any xo<;>cases o.2.1.any qed<;>cases o.2.2.1.any qee<;>rfl
      ·simp only[Bool.and_eq_true]at hb;exact hF (by omega) (by omega) (by omega) hb.1.1
     ·exact⟨false,by simp(disch:=omega)only[rs],fun h=>by cases h⟩
    ·exact⟨false,by simp(disch:=omega)only[rs],fun h=>by cases h⟩
   ·exact⟨false,by simp(disch:=omega)only[rs],fun h=>by cases h⟩
  ·exact⟨false,by simp(disch:=omega)only[rs],fun h=>by cases h⟩
theorem qw0(l:List aq):∃b,v9 l=some b∧(b=true→l.length≤2000):=by
 have hC:l.length≤2000→∃q,bn l=some q:=fun hl=>by
  have h1:∀t:aq,tc t=some (decide ((100:Int)<(t.1.size:Int))||decide ((100:Int)<(t.2.1.size:Int))):=fun t=>by
   unfold tc;cases decide ((100:Int)<(t.1.size:Int))<;>rfl
  have hL:ij l (l.length:Int) 0=some (z7 (fun i=>(i:Int)) (nc (fun t:aq=>decide ((100:Int)<(t.1.size:Int))||decide ((100:Int)<(t.2.1.size:Int))) l)):=by
   refine fj l aq.z (fun t:aq=>decide ((100:Int)<(t.1.size:Int))||decide ((100:Int)<(t.2.1.size:Int))) (fun i=>(i:Int)) (by omega) (fun i hi=> ?_) ?_
   ·simp(disch:=omega)only[ca,h1,rs];rw[bh];exact lw
   ·simp(disch:=omega)only[ca,rs]
  unfold bn ek;rw[hL,bj,mb,bj];exact⟨_,rfl⟩
 unfold v9;by_cases c1:(l.length:Int)≤30
 ·obtain⟨q,hq⟩:=hC (by omega);exact⟨!q,by simp(disch:=omega)only[hq,rs],fun _=>by omega⟩
 ·by_cases c2:1000<(l.length:Int)
  ·by_cases c3:(l.length:Int)<1005
   ·obtain⟨q,hq⟩:=hC (by omega);exact⟨!q,by simp(disch:=omega)only[hq,rs],fun _=>by omega⟩
   ·exact⟨false,by simp(disch:=omega)only[rs],fun h=>by cases h⟩
  ·exact⟨false,by simp(disch:=omega)only[rs],fun h=>by cases h⟩
def qos(o:jo)(person act role:ByteArray)(time:Int)(hs:List aq):Bool×Int:=
 bif !na o|| !ci act|| !ci role then(false,1)else bif !qak time then(false,2)else bif decide (pix o person<0)then(false,10)else bif !decide (va o hs=0)then(false,va o hs)else(xx o person act role time hs,0)
section
variable {o : jo} (h : Few o)
include h
theorem qik(person act role:ByteArray)(time:Int)(hs:List aq)(hl:hs.length≤2000):lx o person act role time hs=some (qos o person act role time hs)∧qcs o person act role time hs=some (qos o person act role time hs):=by
 have hn:[act,role].all ci=(ci act&&ci role):=by simp
 unfold qos lx qcs;cases hv:na o with
 |false=>exact⟨by simp(disch:=omega)only[qd1 h,hv,rs];rfl,by simp(disch:=omega)only[qa5 h,hv,rs];rfl⟩
 |true=>
  by_cases hp:pix o person<0
  ·constructor
   ·simp(disch:=omega)only[qd1 h,hv,qpw [act,role] (by simp),hn,qdi,qeg o h.people,rs];cases ci act<;>cases ci role<;>cases qak time<;>rfl
   ·simp(disch:=omega)only[qa5 h,hv,ll,qcx,ur o h.people,rs];cases ci act<;>cases ci role<;>cases qak time<;>rfl
  ·constructor
   ·simp(disch:=omega)only[qd1 h,hv,qpw [act,role] (by simp),hn,qdi,qeg o h.people,qya h hs hl,q2b h hv (person:=person) (by omega) act role time hs hl,rs];cases ci act<;>cases ci role<;>cases qak time<;>cases decide (va o hs=0)<;>rfl
   ·simp(disch:=omega)only[qa5 h,hv,ll,qcx,ur o h.people,qrl h hs hl,quk h hv (person:=person) (by omega) act role time hs hl,rs];cases ci act<;>cases ci role<;>cases qak time<;>cases decide (va o hs=0)<;>rfl
end
end Go.Proofs.Ytmlfmeffjodhmaa
