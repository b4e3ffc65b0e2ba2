/-
  The tableau: a pivot.
-/
import Derived.Test.YteljgpepodpebaaGreatZ3F4
set_option linter.all false
namespace Go.Proofs.YteljgpepodpebaaGreat
open Go.K Go.M
def eh(i k:Nat)(row:List ab)(R0:List (List ab)):Nat→List (List ab)×Int
 |0=>(R0,0)
 |n+1=>
  bif decide ((eh i k row R0 n).2=0)then
   bif decide (n=i)then((eh i k row R0 n).1,0)
   else bif decide ((gz (ci (eh i k row R0 n).1 n) k).1=0)then((eh i k row R0 n).1,0)
   else((eh i k row R0 n).1.set n (qcm (ci (eh i k row R0 n).1 n) row (gz (ci (eh i k row R0 n).1 n) k)).1,(qcm (ci (eh i k row R0 n).1 n) row (gz (ci (eh i k row R0 n).1 n) k)).2)
  else eh i k row R0 n
section
variable {i k : Nat} {row : List ab} {R0 : List (List ab)}
theorem jak{n:Nat}(h:(eh i k row R0 n).2≠0):eh i k row R0 (n+1)=eh i k row R0 n:=by rw[eh,bg h]
theorem jh9{n:Nat}(h:(eh i k row R0 (n+1)).2=0):(eh i k row R0 n).2=0:=by
 refine Classical.byContradiction fun h1=> ?_
 rw[jak h1]at h;exact h1 h
theorem zy:∀n,(eh i k row R0 n).1.length=R0.length
 |0=>rfl
 |n+1=>by
  have ih:=zy n;unfold eh;cases decide ((eh i k row R0 n).2=0)<;>cases decide (n=i)<;>cases decide ((gz (ci (eh i k row R0 n).1 n) k).1=0)<;>simp[ih]
theorem qys{R:List (List ab)}{n l:Nat}{x:List ab}:ci (R.set n x) l=if l=n∧n<R.length then x else ci R l:=by
 simp only[ci,List.getD_eq_getElem?_getD,List.getElem?_set];by_cases h:n=l
 ·subst h;by_cases h2:n<R.length
  ·simp[h2]
  ·simp[h2,List.getElem?_eq_none (Nat.le_of_not_lt h2)]
 ·rw[if_neg h,if_neg (fun e=>h e.1.symm)]
theorem qvu:∀{n:Nat},(eh i k row R0 n).2=0→∀l,(l<n∧l≠i∧l<R0.length∧(gz (ci R0 l) k).1≠0→(qcm (ci R0 l) row (gz (ci R0 l) k)).2=0∧ci (eh i k row R0 n).1 l=(qcm (ci R0 l) row (gz (ci R0 l) k)).1)∧(¬(l<n∧l≠i∧l<R0.length∧(gz (ci R0 l) k).1≠0)→ci (eh i k row R0 n).1 l=ci R0 l)
 |0,_,l=>⟨fun h=>by omega,fun _=>rfl⟩
 |n+1,h,l=>by
  have h1:=jh9 h;have ih:=qvu h1;have hn:ci (eh i k row R0 n).1 n=ci R0 n:=(ih n).2 (by omega);have hlen:=zy (i:=i) (k:=k) (row:=row) (R0:=R0) n;rw[eh,bu h1]at h⊢;by_cases e1:n=i
  ·simp only[e1,decide_true,cond_true];rw[←e1];by_cases e2:l<n+1∧l≠n∧l<R0.length∧(gz (ci R0 l) k).1≠0
   ·have:=(ih l).1 ⟨by omega,by rw[←e1];exact e2.2.1,e2.2.2⟩;rw[e1]at this⊢;exact⟨fun _=>this,fun hh=>absurd (by rw[←e1];exact e2) hh⟩
   ·have:=(ih l).2 (by rw[←e1];omega);exact⟨fun hh=>absurd hh e2,fun _=>by rw[e1]at this⊢;exact this⟩
  ·simp only[e1,decide_false,cond_false]at h⊢;rw[hn]at h⊢;by_cases e2:(gz (ci R0 n) k).1=0
   ·simp only[e2,decide_true,cond_true];by_cases e3:l=n
    ·subst e3;exact⟨fun hh=>absurd e2 hh.2.2.2,fun _=>hn⟩
    ·exact⟨fun hh=>(ih l).1 ⟨by omega,hh.2⟩,fun hh=>(ih l).2 (fun g=>hh ⟨by omega,g.2⟩)⟩
   ·simp only[e2,decide_false,cond_false]at h⊢;rw[qys,hlen];by_cases e3:l=n
    ·subst e3;by_cases e4:l<R0.length
     ·rw[if_pos ⟨rfl,e4⟩];exact⟨fun _=>⟨h,rfl⟩,fun hh=>absurd ⟨by omega,e1,e4,e2⟩ hh⟩
     ·rw[if_neg (fun g=>e4 g.2)];exact⟨fun hh=>absurd hh.2.2.1 e4,fun _=>hn⟩
    ·rw[if_neg (fun g=>e3 g.1)];exact⟨fun hh=>(ih l).1 ⟨by omega,hh.2⟩,fun hh=>(ih l).2 (fun g=>hh ⟨by omega,g.2⟩)⟩
theorem jj1{e1:Nat}(hR:∀l,l<R0.length→(ci R0 l).length=e1){n:Nat}(h:(eh i k row R0 n).2=0){l:Nat}(hl:l<R0.length):(ci (eh i k row R0 n).1 l).length=e1:=by
 by_cases hc:l<n∧l≠i∧l<R0.length∧(gz (ci R0 l) k).1≠0
 ·obtain⟨h1,h2⟩:=(qvu h l).1 hc;rw[h2,(qov h1).1];exact hR l hl
 ·rw[(qvu h l).2 hc];exact hR l hl
theorem jrw{e1:Nat}(hR:∀l,l<R0.length→(ci R0 l).length=e1)(hrow:row.length=e1)(hk:k<e1)(he:e1≤100000)(hm:R0.length≤100000)(c:List ab)(t3:Int)(bs:List Int):
  yc (i:Int) (k:Int) row (R0.length:Int) (0,c,t3,0,R0,bs)=some (if(eh i k row R0 R0.length).2=0 then .inl (c,t3,0,(eh i k row R0 R0.length).1,bs)else .inr (c,t3,(eh i k row R0 R0.length).2,(eh i k row R0 R0.length).1,bs)):=
 qi7 (step:=fun s:Int×List ab×Int×Int×List (List ab)×List Int=>gk (R:=LR (Int×List ab×Int×Int×List (List ab)×List Int) (List ab×Int×Int×List (List ab)×List Int) (List ab×Int×Int×List (List ab)×List Int)) (i:Int) (k:Int) row (R0.length:Int) s.1 s.2.1 s.2.2.1 s.2.2.2.1 s.2.2.2.2.1 s.2.2.2.2.2 (fun a' =>some (.next a')) (fun e=>some (.done e)) (fun r=>some (.ret r)))
  R0.length (cr (by omega)) (eh i k row R0) (fun n R=>((n:Int),c,t3,0,R,bs)) (fun R=>(c,t3,0,R,bs)) (fun x=>(c,t3,x.2,x.1,bs)) rfl (fun n _ h0=>jak h0) (fun n hn h0=>by
   have hlen:=zy (i:=i) (k:=k) (row:=row) (R0:=R0) n;have hw:=jj1 hR h0 hn;have hw' :((eh i k row R0 n).1.getD n []).length=e1:=hw;unfold gk;rw[eh,bu h0,bi (show(n:Int)<(R0.length:Int) by omega)];by_cases e1:n=i
   ·have e1' :(n:Int)=(i:Int):=by omega
    simp only[e1,e1',decide_true,cond_true,if_true];simp(disch:=omega)only[rs];rw[am]
   ·have e1' :¬(n:Int)=(i:Int):=by omega
    simp only[e1,e1',decide_false,cond_false];rw[ao (by omega) (by omega),ao (by omega) (by omega)];simp only[Int.toNat_natCast];rw[ao (by omega) (by omega),ao (by omega) (by omega)];by_cases e2:(gz (ci (eh i k row R0 n).1 n) k).1=0
    ·have e2' :(((eh i k row R0 n).1.getD n []).getD k ab.z).1=0:=e2;simp only[e2,e2',decide_true,cond_true,if_true];simp(disch:=omega)only[rs];rw[am]
    ·have e2' :¬(((eh i k row R0 n).1.getD n []).getD k ab.z).1=0:=e2;simp only[e2,e2',decide_false,cond_false];rw[ao (by omega) (by omega),ao (by omega) (by omega),ao (by omega) (by omega),ao (by omega) (by omega),ao (by omega) (by omega),ao (by omega) (by omega),ao (by omega) (by omega)];rw[jb9 _ _ _ _ _ (by rw[hrow];exact Nat.le_of_eq hw) (by rw[hw];omega),af];simp only[decide_true,lf];rw[ao (by omega) (by omega)];by_cases m0:(qcm (ci (eh i k row R0 n).1 n) row (gz (ci (eh i k row R0 n).1 n) k)).2=0
     ·simp only[m0,decide_true,Bool.not_true,cond_false,if_true];simp(disch:=omega)only[rs];rw[am]
     ·simp only[m0,decide_false,Bool.not_false,cond_true,if_false]) (fun _=>by unfold gk;simp(disch:=omega)only[rs]) _ rfl
end
def rg(i k:Nat)(c:List ab)(R:List (List ab))(bs:List Int):(List ab×List (List ab)×List Int)×Int:=
 bif decide ((wv (ci R i) (gz (ci R i) k)).2=0)then
  bif decide ((eh i k (wv (ci R i) (gz (ci R i) k)).1 (R.set i (wv (ci R i) (gz (ci R i) k)).1) R.length).2=0)then
   bif decide ((gz c k).1=0)then((c,(eh i k (wv (ci R i) (gz (ci R i) k)).1 (R.set i (wv (ci R i) (gz (ci R i) k)).1) R.length).1,bs.set i (k:Int)),0)
   else(((qcm c (wv (ci R i) (gz (ci R i) k)).1 (gz c k)).1,(eh i k (wv (ci R i) (gz (ci R i) k)).1 (R.set i (wv (ci R i) (gz (ci R i) k)).1) R.length).1,bs.set i (k:Int)),(qcm c (wv (ci R i) (gz (ci R i) k)).1 (gz c k)).2)
  else((c,(eh i k (wv (ci R i) (gz (ci R i) k)).1 (R.set i (wv (ci R i) (gz (ci R i) k)).1) R.length).1,bs.set i (k:Int)),(eh i k (wv (ci R i) (gz (ci R i) k)).1 (R.set i (wv (ci R i) (gz (ci R i) k)).1) R.length).2)
 else((c,R,bs),(wv (ci R i) (gz (ci R i) k)).2)
theorem jfj{m e1 i k:Nat}{c:List ab}{R:List (List ab)}{bs:List Int}(t3:Int)(hR:R.length=m)(hw:∀l,l<m→(ci R l).length=e1)(hc:c.length=e1)(hb:bs.length=m)(hi:i<m)(hk:k<e1)(he:e1≤100000)(hm:m≤100000):
  jk (i:Int) (k:Int) c t3 0 R bs=some ((rg i k c R bs).1.1,t3,(rg i k c R bs).2,(rg i k c R bs).1.2.1,(rg i k c R bs).1.2.2):=by
 have hwi:=hw i hi;have hwi' :(R.getD i []).length=e1:=hwi;unfold jk rg;rw[ao (by omega) (by omega),ao (by omega) (by omega)];simp only[Int.toNat_natCast];rw[ao (by omega) (by omega),ao (by omega) (by omega),ao (by omega) (by omega),ao (by omega) (by omega)];have hdv:=jvp (i:Int) (k:Int) (a:=ci R i) (gz (ci R i) k) c t3 R bs (by omega);have hdv:nz (i:Int) (k:Int) (R.getD i []) ((R.getD i []).length:Int) ((R.getD i []).getD k ab.z).1 ((R.getD i []).getD k ab.z).2.1 (0,c,t3,0,R,bs,[])=_:=hdv;rw[hdv,af];by_cases h0:(wv (ci R i) (gz (ci R i) k)).2=0
 ·rw[if_pos h0,bu h0,g9];obtain⟨hd,_⟩:=qug (show(qix (ci R i) (gz (ci R i) k) (ci R i).length).2=0 from h0);have hd:(wv (ci R i) (gz (ci R i) k)).1.length=e1:=by rw[←hwi];exact hd
  generalize hrow:(wv (ci R i) (gz (ci R i) k)).1=row at*;simp only[];rw[ao (by omega) (by omega),ao (by omega) (by omega),ao (by omega) (by omega),ao (by omega) (by omega)];have hl:(R.set i row).length=R.length:=by simp
  have hw2:∀l,l<(R.set i row).length→(ci (R.set i row) l).length=e1:=fun l hl' =>by
   rw[qys];split
   ·exact hd
   ·exact hw l (by omega)
  have hr:=jrw (i:=i) (k:=k) (row:=row) hw2 hd hk he (by omega) c t3 (bs.set i (k:Int));rw[hr,af,hl];by_cases h1:(eh i k row (R.set i row) R.length).2=0
  ·rw[if_pos h1,bu h1,g9];simp only[];rw[ao (by omega) (by omega),ao (by omega) (by omega)];by_cases h2:(gz c k).1=0
   ·have h2' :(c.getD k ab.z).1=0:=h2;simp only[h2,h2',decide_true,Bool.not_true,cond_false,cond_true]
   ·have h2' :¬(c.getD k ab.z).1=0:=h2;simp only[h2,h2',decide_false,Bool.not_false,cond_false,cond_true];rw[ao (by omega) (by omega),ao (by omega) (by omega),jb9 _ _ _ _ _ (by omega) (by omega),af];simp only[decide_true,lf]
  ·rw[if_neg h1,bg h1,qtl]
 ·rw[if_neg h0,bg h0,qtl]
end Go.Proofs.YteljgpepodpebaaGreat
