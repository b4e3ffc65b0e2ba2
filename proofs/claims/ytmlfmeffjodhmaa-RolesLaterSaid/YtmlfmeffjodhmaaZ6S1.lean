/-
  Roles: names, alphabets, people, organisations: the program and the reference reckon alike.
-/
import Derived.Test.YtmlfmeffjodhmaaZ6Md
import Derived.Test.YtmlfmeffjodhmaaZ6KE
import Derived.KernelRfl
set_option linter.all false
namespace Go.Proofs.Ytmlfmeffjodhmaa
open Go.K Go.M
theorem qqk:qam=some true:=by kernel_rfl
def xn(a b:ByteArray):Bool:=ByteArray.toList a==ByteArray.toList b
theorem ax(a b:ByteArray):(ByteArray.toList a==ByteArray.toList b)=xn a b:=rfl
theorem qvr(a b:ByteArray):xn a b=xn b a:=BEq.comm
def qh6(c:Int):Bool:=decide (65≤c)&&decide (c≤90)||decide (97≤c)&&decide (c≤122)
def wb(c:Int):Bool:=qh6 c||decide (48≤c)&&decide (c≤57)||decide (c=95)||decide (c=45)||decide (c=46)
abbrev byt(s:ByteArray)(i:Nat):Int:=((ByteArray.data s).getD i 0).toNat
theorem qlz(c:Int):tr c=some (qh6 c):=by
 unfold tr qh6;cases decide ((65:Int)≤c)<;>cases decide (c≤(90:Int))<;>cases decide ((97:Int)≤c)<;>cases decide (c≤(122:Int))<;>rfl
theorem yt(c:Int):um c=some (qh6 c):=by
 unfold um qh6;cases decide ((65:Int)≤c)<;>cases decide (c≤(90:Int))<;>cases decide ((97:Int)≤c)<;>cases decide (c≤(122:Int))<;>rfl
theorem qs1(c:Int):qbv c=some (wb c):=by
 unfold qbv wb;rw[qlz,bj];cases qh6 c<;>cases decide ((48:Int)≤c)<;>cases decide (c≤(57:Int))<;>cases decide (c=(95:Int))<;>cases decide (c=(45:Int))<;>cases decide (c=(46:Int))<;>rfl
def ci(s:ByteArray):Bool:=decide (1≤s.size)&&decide (s.size≤40)&&qh6 (byt s 0)&&(List.range s.size).all fun i=>wb (byt s i)
theorem pi(s:ByteArray):gi s=some (ci s):=by
 unfold gi ci;by_cases h1:(s.size:Int)<1
 ·have:¬1≤s.size:=by omega
  simp(disch:=omega)only[rs];rw[decide_eq_false this];rfl
 ·have h1' :1≤s.size:=by omega
  rw[decide_eq_true h1'];by_cases h2:40<(s.size:Int)
  ·have:¬s.size≤40:=by omega
   simp(disch:=omega)only[rs];rw[decide_eq_false this];rfl
  ·have h2' :s.size≤40:=by omega
   rw[decide_eq_true h2'];have hL:qcl s (s.size:Int) 0=some (bif (List.range s.size).all (fun i=>wb (byt s i))then .inl ()else .inr false):=by
    refine xt (fun i:Nat=>(i:Int)) s.size (uk (by omega)) _ () false ?_ ?_ ?_
    ·intro i hi hp;simp(disch:=omega)only[pc,qs1,hp,Bool.not_true,rs];rw[bh]
    ·intro i hi hp;simp(disch:=omega)only[pc,qs1,hp,Bool.not_false,rs]
    ·simp(disch:=omega)only[pc,rs]
   simp(disch:=omega)only[qlz,hL,rs];cases qh6 (byt s 0)with
   |false=>rfl
   |true=>cases(List.range s.size).all (fun i=>wb (byt s i))<;>rfl
theorem qi0(n:Nat)(p:Nat→Bool):(List.range (n+1)).all p=(p 0&&(List.range n).all fun i=>p (i+1)):=by
 rw[List.range_succ_eq_map,List.all_cons,List.all_map];rfl
theorem ll(s:ByteArray):fc s=some (ci s):=by
 unfold fc ci;by_cases h1:(s.size:Int)<1
 ·have:¬1≤s.size:=by omega
  simp(disch:=omega)only[rs];rw[decide_eq_false this];rfl
 ·have h1' :1≤s.size:=by omega
  rw[decide_eq_true h1'];by_cases h2:40<(s.size:Int)
  ·have:¬s.size≤40:=by omega
   simp(disch:=omega)only[rs];rw[decide_eq_false this];rfl
  ·have h2' :s.size≤40:=by omega
   rw[decide_eq_true h2'];have hL:qay s 1=some (bif (List.range (s.size-1)).all (fun i=>wb (byt s (i+1)))then .inl ()else .inr false):=by
    refine xt (fun i:Nat=>((i+1:Nat):Int)) (s.size-1) (uk (by omega)) _ () false ?_ ?_ ?_
    ·intro i hi hp;unfold wb at hp;simp(disch:=omega)only[qs,yt,rs];rw[bh];revert hp;cases qh6 (byt s (i+1))<;>cases decide ((48:Int)≤byt s (i+1))<;>cases decide (byt s (i+1)≤(57:Int))<;>cases decide (byt s (i+1)=(95:Int))<;>cases decide (byt s (i+1)=(45:Int))<;>cases decide (byt s (i+1)=(46:Int))<;>intro hp<;>first|rfl|cases hp
    ·intro i hi hp;unfold wb at hp;simp(disch:=omega)only[qs,yt,rs];revert hp;cases qh6 (byt s (i+1))<;>cases decide ((48:Int)≤byt s (i+1))<;>cases decide (byt s (i+1)≤(57:Int))<;>cases decide (byt s (i+1)=(95:Int))<;>cases decide (byt s (i+1)=(45:Int))<;>cases decide (byt s (i+1)=(46:Int))<;>intro hp<;>first|rfl|cases hp
    ·have e:s.size-1+1=s.size:=by omega
     rw[e];simp(disch:=omega)only[qs,rs]
   simp(disch:=omega)only[yt,hL,rs];have e:s.size=s.size-1+1:=by omega
   have e2:(List.range s.size).all (fun i=>wb (byt s i))=(wb (byt s 0)&&(List.range (s.size-1)).all fun i=>wb (byt s (i+1))):=by
    conv=>lhs;rw[e]
    exact qi0 _ _
   rw[e2];have e3:qh6 (byt s 0)=true→wb (byt s 0)=true:=fun h=>by unfold wb;rw[h];rfl
   cases h:qh6 (byt s 0)with
   |false=>rfl
   |true=>
    rw[e3 h];cases(List.range (s.size-1)).all (fun i=>wb (byt s (i+1)))<;>rfl
def qar(a b:ByteArray):Bool:=Op.bytesLess (ByteArray.toList a) (ByteArray.toList b)
def qo3(l:List ByteArray)(i:Nat):Bool:= !ci (l.getD i ⟨#[]⟩)||decide (0<i)&& !qar (l.getD (i-1) ⟨#[]⟩) (l.getD i ⟨#[]⟩)
def yc(l:List ByteArray):Bool:=decide (l.length≤40)&&(List.range l.length).all fun i=> !qo3 l i
theorem qg7(l:List ByteArray):qj l=some (yc l):=by
 unfold qj yc;by_cases h1:40<(l.length:Int)
 ·have:¬l.length≤40:=by omega
  simp(disch:=omega)only[rs];rw[decide_eq_false this];rfl
 ·have h1' :l.length≤40:=by omega
  rw[decide_eq_true h1'];have hL:zh l l (l.length:Int) 0=some (bif (List.range l.length).all (fun i=> !qo3 l i)then .inl ()else .inr false):=by
   have hst:∀i:Nat,i<l.length→km (R:=LR Int Unit Bool) l l (l.length:Int) (i:Int) (fun a' =>some (.next a')) (fun e=>some (.done e)) (fun r=>some (.ret r))=some (bif qo3 l i then .ret false else .next ((i+1:Nat):Int)):=fun i hi=>by
    unfold qo3 qar;by_cases h0:0<i
    ·have e:(i:Int)-1=((i-1:Nat):Int):=by omega
     have h0' :(0:Int)<(i:Int):=by omega
     rw[decide_eq_true h0];simp(disch:=omega)only[km,pi,e,rs];rw[bh];cases ci (l.getD i ⟨#[]⟩)<;>cases Op.bytesLess (l.getD (i-1) ⟨#[]⟩).toList (l.getD i ⟨#[]⟩).toList<;>rfl
    ·have h0' :¬(0:Int)<(i:Int):=by omega
     rw[decide_eq_false h0];simp(disch:=omega)only[km,pi,rs];rw[bh];cases ci (l.getD i ⟨#[]⟩)<;>rfl
   refine xt (fun i:Nat=>(i:Int)) l.length (uk (by omega)) _ () false (fun i hi hp=> ?_) (fun i hi hp=> ?_) ?_
   ·have hb:qo3 l i=false:=by simpa using hp
    exact(hst i hi).trans (by rw[hb];rfl)
   ·have hb:qo3 l i=true:=by simpa using hp
    exact(hst i hi).trans (by rw[hb];rfl)
   ·simp(disch:=omega)only[km,rs]
  simp(disch:=omega)only[hL,rs];cases(List.range l.length).all (fun i=> !qo3 l i)<;>rfl
theorem qu3(l:List ByteArray)(hl:l.length≤9223372036854775806):qaz l=some (l.all ci):=by
 have hL:qcr l 0=some (bif l.any (fun s=> !ci s)then .inr false else .inl ()):=by
  refine sw l ⟨#[]⟩ (fun s=> !ci s) false hl (fun i hi=> ?_) ?_
  ·simp(disch:=omega)only[vc,ll,rs];rw[bh];cases ci (l.getD i ⟨#[]⟩)<;>rfl
  ·simp(disch:=omega)only[vc,rs]
 unfold qaz;rw[hL,bj];have:l.all ci= !l.any (fun s=> !ci s):=by rw[List.not_any_eq_all_not];simp
 rw[this];cases l.any (fun s=> !ci s)<;>rfl
theorem qa4(l:List ByteArray):rq l=some (yc l):=by
 unfold rq yc;by_cases h1:(l.length:Int)≤40
 ·have h1' :l.length≤40:=by omega
  rw[decide_eq_true h1'];have hA:wz l=some ((List.range (l.length-1)).all fun i=>qar (l.getD i ⟨#[]⟩) (l.getD (i+1) ⟨#[]⟩)):=by
   have hL:zj l 1=some (bif (List.range (l.length-1)).all (fun i=>qar (l.getD i ⟨#[]⟩) (l.getD (i+1) ⟨#[]⟩))then .inl ()else .inr false):=by
    have hst:∀i:Nat,i<l.length-1→mf (R:=LR Int Unit Bool) l ((i+1:Nat):Int) (fun a' =>some (.next a')) (fun e=>some (.done e)) (fun r=>some (.ret r))=some (bif qar (l.getD i ⟨#[]⟩) (l.getD (i+1) ⟨#[]⟩)then .next ((i+1+1:Nat):Int)else .ret false):=fun i hi=>by
     have e:((i+1:Nat):Int)-1=(i:Int):=by omega
     unfold qar;simp(disch:=omega)only[mf,e,rs];rw[bh];cases Op.bytesLess (l.getD i ⟨#[]⟩).toList (l.getD (i+1) ⟨#[]⟩).toList<;>rfl
    by_cases h0:l.length=0
    ·have e0:l.length-1=0:=by omega
     rw[e0];refine u6 (fun _:Nat=>(1:Int)) 0 (uk (by omega)) (.inl ()) (fun i hi=>by omega) ?_;simp(disch:=omega)only[mf,rs]
    ·refine xt (fun i:Nat=>((i+1:Nat):Int)) (l.length-1) (uk (by omega)) _ () false (fun i hi hp=> ?_) (fun i hi hp=> ?_) ?_
     ·exact(hst i hi).trans (by rw[hp];rfl)
     ·exact(hst i hi).trans (by rw[hp];rfl)
     ·have e:l.length-1+1=l.length:=by omega
      rw[e];simp(disch:=omega)only[mf,rs]
   unfold wz;rw[hL,bj];cases(List.range (l.length-1)).all (fun i=>qar (l.getD i ⟨#[]⟩) (l.getD (i+1) ⟨#[]⟩))<;>rfl
  simp(disch:=omega)only[qu3 l (by omega),hA,rs];refine(show _=some (l.all ci&&(List.range (l.length-1)).all fun i=>qar (l.getD i ⟨#[]⟩) (l.getD (i+1) ⟨#[]⟩))from by cases l.all ci<;>rfl).trans (congrArg some ?_);rw[Bool.true_and,Bool.eq_iff_iff];simp only[Bool.and_eq_true,List.all_eq_true,List.mem_range,qo3,Bool.not_eq_true',Bool.or_eq_false_iff,Bool.and_eq_false_iff,Bool.not_eq_false',decide_eq_false_iff_not];constructor
  ·rintro⟨h2,h3⟩ i hi;refine⟨h2 _ (j1 _ hi),?_⟩;by_cases h0:0<i
   ·have:=h3 (i-1) (by omega);rw[show i-1+1=i by omega]at this;exact .inr this
   ·exact .inl h0
  ·intro h2;refine⟨fun s hs=> ?_,fun i hi=> ?_⟩
   ·obtain⟨i,hi,rfl⟩:=qwc (⟨#[]⟩:ByteArray) hs;exact(h2 i hi).1
   ·exact(h2 (i+1) (by omega)).2.resolve_left (by omega)
 ·have:¬l.length≤40:=by omega
  simp(disch:=omega)only[rs];rw[decide_eq_false this];rfl
end Go.Proofs.Ytmlfmeffjodhmaa
