/-
  Freechoice: the closure; connected nets.
-/
import Derived.Test.YtclbndfjhjladaaGreatZ4G7
set_option linter.all false
namespace Go.Proofs.YtclbndfjhjladaaGreat
open Go.K Go.M
def qex(n:ca):af:=((⟨#[]⟩:ByteArray),[n.2.2.2.1],[n.2.2.1],())
def qcf(n:ca):ca:=(n.1,n.2.1++[qex n],n.2.2.1,n.2.2.2.1,())
def j9s:ca:=(0,[],0,0,())
def qna(n:ca)(w:Bool):ca×Int:=
 bif !c6 n then(j9s,1)else bif !w then(j9s,19)else bif decide ((60:Int)≤(n.2.1.length:Int))then(j9s,5)else(qcf n,0)
theorem jtz{n:ca}(h:Small n)(a b c d e f g i j:Int)(w v:List af):qg9 n.2.1 (n.2.1.length:Int) a w b c d v e f g i j (0,[])=some (.inl n.2.1):=by
 have ht:=h.trans;refine a9 (fun q=>((q:Int),n.2.1.take q)) n.2.1.length (aw (by omega)) _ (fun q hq=> ?_) ?_ _ rfl
 ·have h1:=h.ins _ (ao af.z hq);have h2:=h.outs _ (ao af.z hq);have hl:(n.2.1.take q).length≤100:=by rw[List.length_take];omega
  rw[ct n.2.1 q af.z hq];simp(disch:=omega)only[ne,vg (n.2.1.getD q af.z).2.1 (by omega),vg (n.2.1.getD q af.z).2.2.1 (by omega),ag,rs]
 ·rw[List.take_length];simp(disch:=omega)only[ne,rs]
theorem jv3{n:ca}(h:Small n){w:Bool}(h1:ns n=some w)(h2:ny n=some w):t9 n=some (qna n w)∧qjh n=some (qna n w):=by
 have ht:=h.trans;constructor
 ·unfold t9 qna;rw[yu h,h1];cases c6 n with
  |false=>rfl
  |true=>
   cases w with
   |false=>rfl
   |true=>
    simp only[au,Bool.not_true,cond_false];by_cases e:(60:Int)≤(n.2.1.length:Int)
    ·rw[decide_eq_true e];rfl
    ·rw[decide_eq_false e];simp only[cond_false];rw[jtz h];simp(disch:=omega)only[rs];rfl
 ·unfold qjh qna;rw[oq h,h2];cases c6 n with
  |false=>rfl
  |true=>
   cases w with
   |false=>rfl
   |true=>
    simp only[au,Bool.not_true,cond_false];by_cases e:(60:Int)≤(n.2.1.length:Int)
    ·rw[decide_eq_true e];rfl
    ·rw[decide_eq_false e];simp only[cond_false];simp(disch:=omega)only[rs];rfl
theorem jcd{n:ca}(h:Small n):f6 n=some (qk2 n.2.1):=juj (ts:=n.2.1) h.trans h.ins n.1 n.2.2.1 n.2.2.2.1
theorem j5g{n:ca}(h:Small n):qma n=some (qk2 n.2.1):=j9y (ts:=n.2.1) h.trans h.ins n.1 n.2.2.1 n.2.2.2.1
def jz8(n:ca):List Clu:=qod (s9 (edA n.1.toNat false n.2.1 n.2.1.length)) n.1.toNat (n.1.toNat+n.2.1.length)
theorem jpv{n:ca}(hv:c6 n=true)(h:Small n):de n=some (jz8 n)∧tn n=some (jz8 n):=by
 obtain⟨p1,p2,p3,_,_,hB⟩:=qot hv h;have e:((n.1.toNat:Nat):Int)=n.1:=Int.toNat_of_nonneg (by omega);have h1:=jmn (M:=n.1.toNat) (ts:=n.2.1) (by omega) (by omega) hB n.2.2.1 n.2.2.2.1;have h2:=je8 (M:=n.1.toNat) (ts:=n.2.1) (by omega) (by omega) hB n.2.2.1 n.2.2.2.1;rw[e]at h1 h2;exact⟨h1,h2⟩
theorem ji5{n:ca}(h:Small n)(hl:n.2.1.length<60):Small (qcf n):=by
 refine⟨by show(n.2.1++[qex n]).length≤100;rw[List.length_append];simp;omega,fun t ht=> ?_,fun t ht=> ?_⟩
 ·rcases List.mem_append.1 (show t∈n.2.1++[qex n]from ht)with ht|ht
  ·exact h.ins t ht
  ·rw[List.mem_singleton.1 ht];simp[qex]
 ·rcases List.mem_append.1 (show t∈n.2.1++[qex n]from ht)with ht|ht
  ·exact h.outs t ht
  ·rw[List.mem_singleton.1 ht];simp[qex]
theorem jpb(a b:List Int)(ha:a.length≤1000)(hb:b.length≤1000):kq [a,b]=some (a++b):=by
 have h0:yi [a,b] [a,b] (([a,b]:List (List Int)).length:Int) (0,0)=some (.inl ((a.length:Int)+(b.length:Int))):=by
  refine a9 (fun q=>((match q with|0=>0|1=>(a.length:Int)|_=>(a.length:Int)+(b.length:Int)),(q:Int))) 2 (by decide) _ (fun q hq=> ?_) ?_ _ rfl
  ·match q,hq with
   |0,_=>simp(disch:=omega)only[fa,List.length_cons,List.length_nil,List.getD_cons_zero,Int.zero_add,Int.toNat_zero,rs];rfl
   |1,_=>simp(disch:=omega)only[fa,List.length_cons,List.length_nil,List.getD_cons_succ,List.getD_cons_zero,rs];rfl
  ·simp(disch:=omega)only[fa,List.length_cons,List.length_nil,rs]
 have hg:nh ((a.length:Int)+(b.length:Int))=some []:=by
  unfold nh;by_cases e:(0:Int)<(a.length:Int)+(b.length:Int)
  ·simp(disch:=omega)only[List.length_replicate,rs];simp;rw[decide_eq_true e];rfl
  ·simp(disch:=omega)only[rs]
 have h1:yj [a,b] (([a,b]:List (List Int)).length:Int) (0,[])=some (.inl (a++b)):=by
  refine a9 (fun q=>((q:Int),(match q with|0=>[]|1=>a|_=>a++b))) 2 (by decide) _ (fun q hq=> ?_) ?_ _ rfl
  ·match q,hq with
   |0,_=>simp(disch:=omega)only[fb,List.length_cons,List.length_nil,List.getD_cons_zero,Int.zero_add,Int.toNat_zero,rs];rfl
   |1,_=>simp(disch:=omega)only[fb,List.length_cons,List.length_nil,List.getD_cons_succ,List.getD_cons_zero,rs];rfl
  ·simp(disch:=omega)only[fb,List.length_cons,List.length_nil,rs]
 unfold kq;rw[h0];simp(disch:=omega)only[hg,h1,rs]
def jwu(n:ca):Bool:=decide (0<n.2.1.length)&&(List.range (n.1.toNat+n.2.1.length)).all fun z=>decide (s9 (edA n.1.toNat true n.2.1 n.2.1.length) z=s9 (edA n.1.toNat true n.2.1 n.2.1.length) 0)
section
variable {M : Nat} {ts : List af} (hM : M ≤ 100) (hT : ts.length ≤ 100) (hB : InB M ts)
include hM hT hB
theorem j0b:∃p,UF p (s9 (edA M true ts ts.length))∧jm ts (ts.length:Int) (0,(M:Int),pL (M+ts.length) id)=some (.inl ((M:Int),pL (M+ts.length) p)):=by
 have hL:∃o,jm ts (ts.length:Int) (0,(M:Int),pL (M+ts.length) id)=some o∧∃p,UF p (s9 (edA M true ts ts.length))∧o= .inl ((M:Int),pL (M+ts.length) p):=by
  refine da (fun(s:Int×Int×List Int)=>∃(j:Nat) (q:Nat→Nat),s=((j:Int),(M:Int),pL (M+ts.length) q)∧j≤ts.length∧UF q (s9 (edA M true ts j))) (fun s=>ts.length-s.1.toNat) _ _ ⟨0,id,rfl,Nat.zero_le _,UF.id⟩ (by unfold many;simp;omega) ?_;rintro _ ⟨j,q,rfl,hj,hq⟩;by_cases e:j=ts.length
  ·subst e;refine⟨.done ((M:Int),pL (M+ts.length) q),?_,q,hq,rfl⟩;simp(disch:=omega)only[iy,rs]
  ·have hjl:j<ts.length:=by omega
   obtain⟨h1,h2⟩:=hB.lst hjl true;obtain⟨k1,k2⟩:=(hB _ (ao af.z hjl)).1;have hl:jcr true (ts.getD j af.z)=(ts.getD j af.z).2.1++(ts.getD j af.z).2.2.1:=rfl;rw[hl]at h1 h2;generalize hg:(ts.getD j af.z).2.1++(ts.getD j af.z).2.2.1=l at h1 h2 hl;have s1:∀(k:Nat) (L:List Int),k<l.length→cz (R:=LR (Int×Int×List Int) (Int×List Int) Bool) (j:Int) ts (ts.length:Int) (j:Int) l (l.length:Int) (k:Int) (M:Int) L (fun a' =>some (.next a')) (fun e=>some (.done e)) (fun r=>some (.ret r))=bnd (cm (l.getD k 0) (j:Int) (M:Int) L) fun r=>ah (decide (r.2.length=L.length)) (some (.next (((k+1:Nat):Int),r.1,r.2))):=fun k L hk=>by
    simp(disch:=omega)only[cz,ag,rs]
   have s2:∀L:List Int,cz (R:=LR (Int×Int×List Int) (Int×List Int) Bool) (j:Int) ts (ts.length:Int) (j:Int) l (l.length:Int) (l.length:Int) (M:Int) L (fun a' =>some (.next a')) (fun e=>some (.done e)) (fun r=>some (.ret r))=some (.done ((M:Int),L)):=fun L=>by
    simp(disch:=omega)only[cz,rs]
   obtain⟨q',hq',e'⟩:=jil (N:=M+ts.length) (M:=M) (by omega) (step:=fun(x:Int×Int×List Int)=>cz (R:=LR (Int×Int×List Int) (Int×List Int) Bool) (j:Int) ts (ts.length:Int) (j:Int) l (l.length:Int) x.1 x.2.1 x.2.2 (fun a' =>some (.next a')) (fun e=>some (.done e)) (fun r=>some (.ret r))) (t:=j) (by omega) l (by omega) h2 (fun x y=>(x,y)) s1 s2 (qyr (edA M true ts j)) hq;refine⟨.next (((j+1:Nat):Int),(M:Int),pL (M+ts.length) q'),?_,⟨j+1,q',rfl,by omega,?_⟩,?_⟩
   ·simp(disch:=omega)only[iy,rs];have e2:zg (j:Int) ts (ts.length:Int) (j:Int) l (l.length:Int) (0,(M:Int),pL (M+ts.length) q)=_:=e';rw[jpb _ _ (by omega) (by omega),au,hg,e2];simp(disch:=omega)only[rs];rw[ag]
   ·rw[jbi,jml,hl];exact hq'
   ·simp only[Int.toNat_natCast];omega
 obtain⟨_,ho,p',hp',rfl⟩:=hL;exact⟨p',hp',ho⟩
end
theorem j0c{N:Nat}(hN:N≤1000)(h0:0<N){c:Nat→Nat}(hc:Rep c)(P:Int){p:Nat→Nat}(hp:UF p c):∃o,pi (N:Int) (0,P,pL N p)=some o∧o=bif (List.range N).all (fun z=>decide (c z=c 0))then .inl ()else .inr false:=by
 refine da (fun(s:Int×Int×List Int)=>∃(j:Nat) (q:Nat→Nat),s=((j:Int),P,pL N q)∧j≤N∧UF q c∧∀z,z<j→c z=c 0) (fun s=>N-s.1.toNat) (fun o=>o=bif (List.range N).all (fun z=>decide (c z=c 0))then .inl ()else .inr false) _ ⟨0,p,rfl,Nat.zero_le _,hp,fun z hz=>absurd hz (Nat.not_lt_zero z)⟩ (by unfold many;simp;omega) ?_;rintro _ ⟨j,q,rfl,hj,hq,hz⟩;by_cases e:j=N
 ·subst e;have hall:(List.range j).all (fun z=>decide (c z=c 0))=true:=by simpa using hz
  refine⟨.done (),?_,by rw[hall];rfl⟩;simp(disch:=omega)only[fh,rs]
 ·obtain⟨q1,h1,e1⟩:=q13 hN hc P hq (i:=j) (by omega);obtain⟨q2,h2,e2⟩:=q13 hN hc P h1 (i:=0) h0;have e2:cd 0 P (pL N q1)=_:=e2;by_cases ec:c j=c 0
  ·refine⟨.next (((j+1:Nat):Int),P,pL N q2),?_,⟨j+1,q2,rfl,by omega,h2,fun z hz' => ?_⟩,by simp only[Int.toNat_natCast];omega⟩
   ·unfold fh;rw[qq5 (by omega),e1];simp only[au,qcl,decide_true,ls];rw[e2];simp(disch:=omega)only[qcl,ls,ag,rs]
   ·rcases Nat.lt_or_ge z j with h|h
    ·exact hz z h
    ·rw[show z=j by omega];exact ec
  ·have hall:(List.range N).all (fun z=>decide (c z=c 0))=false:=by
    rw[←Bool.not_eq_true,List.all_eq_true];exact fun h=>ec (by simpa using h j (List.mem_range.2 (by omega)))
   refine⟨.ret false,?_,by rw[hall];rfl⟩;unfold fh;rw[qq5 (by omega),e1];simp only[au,qcl,decide_true,ls];rw[e2];simp(disch:=omega)only[qcl,ls,rs]
theorem jmp{n:ca}(hv:c6 n=true)(h:Small n):ly n=some (jwu n)∧xf n=some (jwu n):=by
 obtain⟨p1,p2,p3,_,_,hB⟩:=qot hv h;obtain⟨n1,ts,a,b,_⟩:=n;have p1:1≤n1:=p1;have p2:n1≤40:=p2;have p3:ts.length≤60:=p3;have e:((n1.toNat:Nat):Int)=n1:=Int.toNat_of_nonneg (by omega);have hB:InB n1.toNat ts:=hB;have hm:0<n1.toNat:=by omega
 have hc:=qyr (edA n1.toNat true ts ts.length);unfold jwu;constructor
 ·unfold ly;by_cases h0:ts.length=0
  ·simp(disch:=omega)only[h0,rs];rfl
  ·obtain⟨p,hp,h1⟩:=j0b (M:=n1.toNat) (by omega) (by omega) hB;obtain⟨_,h2,rfl⟩:=j0c (N:=n1.toNat+ts.length) (by omega) (by omega) hc n1 hp;rw[decide_eq_false (show¬(ts.length:Int)=0 by omega),cond_false,qvm (n1,ts,a,b,()) ⟨by show 0≤n1;omega,by show n1≤100;omega⟩ (by show ts.length≤100;omega),au];rw[e]at h1;show bnd (jm ts (ts.length:Int) (0,n1,pL (n1.toNat+ts.length) id)) _=_;rw[h1,au,mo];show bnd (pi ((pL (n1.toNat+ts.length) p).length:Int) (0,n1,pL (n1.toNat+ts.length) p)) _=_;rw[qcl,h2,au,decide_eq_true (show 0<ts.length by omega),Bool.true_and];cases(List.range (n1.toNat+ts.length)).all fun z=>decide (s9 (edA n1.toNat true ts ts.length) z=s9 (edA n1.toNat true ts ts.length) 0)<;>rfl
 ·have hs:=jie (M:=n1.toNat) (ts:=ts) (by omega) (by omega) hB true (i:=0) (by omega) a b;rw[e]at hs;have hs:uq (n1,ts,a,b,()) 0 true=_:=hs;unfold xf;rw[hs,au];have hl:qao (bL (n1.toNat+ts.length) fun z=>decide (s9 (edA n1.toNat true ts ts.length) z=s9 (edA n1.toNat true ts ts.length) 0)) n1 ts a b 0=some (bif (List.range (n1.toNat+ts.length)).all (fun z=>decide (s9 (edA n1.toNat true ts ts.length) z=s9 (edA n1.toNat true ts ts.length) 0))then .inl ()else .inr false):=by
   refine fj (fun q=>(q:Int)) (n1.toNat+ts.length) (aw (by omega)) _ () false (fun i hi hp=> ?_) (fun i hi hp=> ?_) ?_
   ·simp(disch:=omega)only[kj,pf,qij,hp,ag,rs]
   ·simp(disch:=omega)only[kj,pf,qij,hp,rs]
   ·simp(disch:=omega)only[kj,pf,rs]
  show bnd (qao _ n1 ts a b 0) _=_;rw[hl,au];show lk _ (fun _=>some (decide ((0:Int)<(ts.length:Int)))) _=some (decide (0<ts.length)&&_);cases(List.range (n1.toNat+ts.length)).all fun z=>decide (s9 (edA n1.toNat true ts ts.length) z=s9 (edA n1.toNat true ts ts.length) 0)with
  |true=>
   rw[Bool.and_true];show some _=some _;congr 1;rw[decide_eq_decide];omega
  |false=>rw[Bool.and_false];rfl
end Go.Proofs.YtclbndfjhjladaaGreat
