/-
  Freechoice: the closure; connected nets.
-/
import Derived.Test.YtclbndfjhjladaaGreatZ5PG7
set_option linter.all false
namespace Go.Proofs.YtclbndfjhjladaaGreat
open Go.K Go.M
def xe(n:bp):ae:=((⟨#[]⟩:ByteArray),[n.2.2.2.1],[n.2.2.1],())
def am(n:bp):bp:=(n.1,n.2.1++[xe n],n.2.2.1,n.2.2.2.1,())
def j2n:bp:=(0,[],0,0,())
def qs7(n:bp)(w:Bool):bp×Int:=
 bif !ck n then(j2n,1)else bif !w then(j2n,19)else bif decide ((60:Int)≤(n.2.1.length:Int))then(j2n,5)else(am n,0)
theorem jlw{n:bp}(h:Small n)(a b c d e f g i j:Int)(w v:List ae):qf3 n.2.1 (n.2.1.length:Int) a w b c d v e f g i j (0,[])=some (.inl n.2.1):=by
 have ht:=h.trans;refine cn (fun q=>((q:Int),n.2.1.take q)) n.2.1.length (bc (by omega)) _ (fun q hq=> ?_) ?_ _ rfl
 ·have h1:=h.ins _ (au ae.z hq);have h2:=h.outs _ (au ae.z hq);have hl:(n.2.1.take q).length≤100:=by rw[List.length_take];omega
  rw[d7 n.2.1 q ae.z hq];simp(disch:=omega)only[nr,vp (n.2.1.getD q ae.z).2.1 (by omega),vp (n.2.1.getD q ae.z).2.2.1 (by omega),ah,rs]
 ·rw[List.take_length];simp(disch:=omega)only[nr,rs]
theorem jfc{n:bp}(h:Small n):gu n=some (qm1 n.2.1):=jmh (ts:=n.2.1) h.trans h.ins n.1 n.2.2.1 n.2.2.2.1
def jos(n:bp):List Clu:=qoq (yn (edA n.1.toNat false n.2.1 n.2.1.length)) n.1.toNat (n.1.toNat+n.2.1.length)
theorem ja5{n:bp}(h:Small n)(hl:n.2.1.length<60):Small (am n):=by
 refine⟨by show(n.2.1++[xe n]).length≤100;rw[List.length_append];simp;omega,fun t ht=> ?_,fun t ht=> ?_⟩
 ·rcases List.mem_append.1 (show t∈n.2.1++[xe n]from ht)with ht|ht
  ·exact h.ins t ht
  ·rw[List.mem_singleton.1 ht];simp[xe]
 ·rcases List.mem_append.1 (show t∈n.2.1++[xe n]from ht)with ht|ht
  ·exact h.outs t ht
  ·rw[List.mem_singleton.1 ht];simp[xe]
theorem jgn(a b:List Int)(ha:a.length≤1000)(hb:b.length≤1000):lx [a,b]=some (a++b):=by
 have h0:yc [a,b] [a,b] (([a,b]:List (List Int)).length:Int) (0,0)=some (.inl ((a.length:Int)+(b.length:Int))):=by
  refine cn (fun q=>((match q with|0=>0|1=>(a.length:Int)|_=>(a.length:Int)+(b.length:Int)),(q:Int))) 2 (by decide) _ (fun q hq=> ?_) ?_ _ rfl
  ·match q,hq with
   |0,_=>simp(disch:=omega)only[fo,List.length_cons,List.length_nil,List.getD_cons_zero,Int.zero_add,Int.toNat_zero,rs];rfl
   |1,_=>simp(disch:=omega)only[fo,List.length_cons,List.length_nil,List.getD_cons_succ,List.getD_cons_zero,rs];rfl
  ·simp(disch:=omega)only[fo,List.length_cons,List.length_nil,rs]
 have hg:nt ((a.length:Int)+(b.length:Int))=some []:=by
  unfold nt;by_cases e:(0:Int)<(a.length:Int)+(b.length:Int)
  ·simp(disch:=omega)only[List.length_replicate,rs];simp;rw[decide_eq_true e];rfl
  ·simp(disch:=omega)only[rs]
 have h1:yd [a,b] (([a,b]:List (List Int)).length:Int) (0,[])=some (.inl (a++b)):=by
  refine cn (fun q=>((q:Int),(match q with|0=>[]|1=>a|_=>a++b))) 2 (by decide) _ (fun q hq=> ?_) ?_ _ rfl
  ·match q,hq with
   |0,_=>simp(disch:=omega)only[fp,List.length_cons,List.length_nil,List.getD_cons_zero,Int.zero_add,Int.toNat_zero,rs];rfl
   |1,_=>simp(disch:=omega)only[fp,List.length_cons,List.length_nil,List.getD_cons_succ,List.getD_cons_zero,rs];rfl
  ·simp(disch:=omega)only[fp,List.length_cons,List.length_nil,rs]
 unfold lx;rw[h0];simp(disch:=omega)only[hg,h1,rs]
def jeh(n:bp):Bool:=decide (0<n.2.1.length)&&(List.range (n.1.toNat+n.2.1.length)).all fun z=>decide (yn (edA n.1.toNat true n.2.1 n.2.1.length) z=yn (edA n.1.toNat true n.2.1 n.2.1.length) 0)
section
variable {M : Nat} {ts : List ae} (hM : M ≤ 100) (hT : ts.length ≤ 100) (hB : InB M ts)
include hM hT hB
theorem jsq:∃p,UF p (yn (edA M true ts ts.length))∧kf ts (ts.length:Int) (0,(M:Int),pL (M+ts.length) id)=some (.inl ((M:Int),pL (M+ts.length) p)):=by
 have hL:∃o,kf ts (ts.length:Int) (0,(M:Int),pL (M+ts.length) id)=some o∧∃p,UF p (yn (edA M true ts ts.length))∧o= .inl ((M:Int),pL (M+ts.length) p):=by
  refine og (fun(s:Int×Int×List Int)=>∃(j:Nat) (q:Nat→Nat),s=((j:Int),(M:Int),pL (M+ts.length) q)∧j≤ts.length∧UF q (yn (edA M true ts j))) (fun s=>ts.length-s.1.toNat) _ _ ⟨0,id,rfl,Nat.zero_le _,UF.id⟩ (by unfold many;simp;omega) ?_;rintro _ ⟨j,q,rfl,hj,hq⟩;by_cases e:j=ts.length
  ·subst e;refine⟨.done ((M:Int),pL (M+ts.length) q),?_,q,hq,rfl⟩;simp(disch:=omega)only[jt,rs]
  ·have hjl:j<ts.length:=by omega
   obtain⟨h1,h2⟩:=hB.lst hjl true;obtain⟨k1,k2⟩:=(hB _ (au ae.z hjl)).1;have hl:jmq true (ts.getD j ae.z)=(ts.getD j ae.z).2.1++(ts.getD j ae.z).2.2.1:=rfl;rw[hl]at h1 h2;generalize hg:(ts.getD j ae.z).2.1++(ts.getD j ae.z).2.2.1=l at h1 h2 hl;have s1:∀(k:Nat) (L:List Int),k<l.length→da (R:=LR (Int×Int×List Int) (Int×List Int) Bool) (j:Int) ts (ts.length:Int) (j:Int) l (l.length:Int) (k:Int) (M:Int) L (fun a' =>some (.next a')) (fun e=>some (.done e)) (fun r=>some (.ret r))=bnd (cm (l.getD k 0) (j:Int) (M:Int) L) fun r=>ao (decide (r.2.length=L.length)) (some (.next (((k+1:Nat):Int),r.1,r.2))):=fun k L hk=>by
    simp(disch:=omega)only[da,ah,rs]
   have s2:∀L:List Int,da (R:=LR (Int×Int×List Int) (Int×List Int) Bool) (j:Int) ts (ts.length:Int) (j:Int) l (l.length:Int) (l.length:Int) (M:Int) L (fun a' =>some (.next a')) (fun e=>some (.done e)) (fun r=>some (.ret r))=some (.done ((M:Int),L)):=fun L=>by
    simp(disch:=omega)only[da,rs]
   obtain⟨q',hq',e'⟩:=jaq (N:=M+ts.length) (M:=M) (by omega) (step:=fun(x:Int×Int×List Int)=>da (R:=LR (Int×Int×List Int) (Int×List Int) Bool) (j:Int) ts (ts.length:Int) (j:Int) l (l.length:Int) x.1 x.2.1 x.2.2 (fun a' =>some (.next a')) (fun e=>some (.done e)) (fun r=>some (.ret r))) (t:=j) (by omega) l (by omega) h2 (fun x y=>(x,y)) s1 s2 (que (edA M true ts j)) hq;refine⟨.next (((j+1:Nat):Int),(M:Int),pL (M+ts.length) q'),?_,⟨j+1,q',rfl,by omega,?_⟩,?_⟩
   ·simp(disch:=omega)only[jt,rs];have e2:y9 (j:Int) ts (ts.length:Int) (j:Int) l (l.length:Int) (0,(M:Int),pL (M+ts.length) q)=_:=e';rw[jgn _ _ (by omega) (by omega),ax,hg,e2];simp(disch:=omega)only[rs];rw[ah]
   ·rw[jep,jec,hl];exact hq'
   ·simp only[Int.toNat_natCast];omega
 obtain⟨_,ho,p',hp',rfl⟩:=hL;exact⟨p',hp',ho⟩
end
theorem jsr{N:Nat}(hN:N≤1000)(h0:0<N){c:Nat→Nat}(hc:Rep c)(P:Int){p:Nat→Nat}(hp:UF p c):∃o,p9 (N:Int) (0,P,pL N p)=some o∧o=bif (List.range N).all (fun z=>decide (c z=c 0))then .inl ()else .inr false:=by
 refine og (fun(s:Int×Int×List Int)=>∃(j:Nat) (q:Nat→Nat),s=((j:Int),P,pL N q)∧j≤N∧UF q c∧∀z,z<j→c z=c 0) (fun s=>N-s.1.toNat) (fun o=>o=bif (List.range N).all (fun z=>decide (c z=c 0))then .inl ()else .inr false) _ ⟨0,p,rfl,Nat.zero_le _,hp,fun z hz=>absurd hz (Nat.not_lt_zero z)⟩ (by unfold many;simp;omega) ?_;rintro _ ⟨j,q,rfl,hj,hq,hz⟩;by_cases e:j=N
 ·subst e;have hall:(List.range j).all (fun z=>decide (c z=c 0))=true:=by simpa using hz
  refine⟨.done (),?_,by rw[hall];rfl⟩;simp(disch:=omega)only[f6,rs]
 ·obtain⟨q1,h1,e1⟩:=qwr hN hc P hq (i:=j) (by omega);obtain⟨q2,h2,e2⟩:=qwr hN hc P h1 (i:=0) h0;have e2:b9 0 P (pL N q1)=_:=e2;by_cases ec:c j=c 0
  ·refine⟨.next (((j+1:Nat):Int),P,pL N q2),?_,⟨j+1,q2,rfl,by omega,h2,fun z hz' => ?_⟩,by simp only[Int.toNat_natCast];omega⟩
   ·unfold f6;rw[ve (by omega),e1];simp only[ax,qb2,decide_true,nu];rw[e2];simp(disch:=omega)only[qb2,nu,ah,rs]
   ·rcases Nat.lt_or_ge z j with h|h
    ·exact hz z h
    ·rw[show z=j by omega];exact ec
  ·have hall:(List.range N).all (fun z=>decide (c z=c 0))=false:=by
    rw[←Bool.not_eq_true,List.all_eq_true];exact fun h=>ec (by simpa using h j (List.mem_range.2 (by omega)))
   refine⟨.ret false,?_,by rw[hall];rfl⟩;unfold f6;rw[ve (by omega),e1];simp only[ax,qb2,decide_true,nu];rw[e2];simp(disch:=omega)only[qb2,nu,rs]
end Go.Proofs.YtclbndfjhjladaaGreat
