/-
  The tableau: a row less a multiple of another one, and a pivot.
-/
import Derived.Test.YteljgpepodpebaaGreatZ3F3
set_option linter.all false
namespace Go.Proofs.YteljgpepodpebaaGreat
open Go.K Go.M
abbrev gz(l:List ab)(j:Nat):ab:=l.getD j ab.z
abbrev ci(l:List (List ab))(i:Nat):List ab:=l.getD i []
def u9(a b:List ab)(y:ab):Nat→List ab×Int
 |0=>([],0)
 |n+1=>
  bif decide ((u9 a b y n).2=0)then
   bif decide ((mg y (gz b n)).2=0)then
    bif decide ((qba (gz a n) (mg y (gz b n)).1).2=0)then((u9 a b y n).1++[(qba (gz a n) (mg y (gz b n)).1).1],0)
    else([],(qba (gz a n) (mg y (gz b n)).1).2)
   else([],(mg y (gz b n)).2)
  else u9 a b y n
def qcm(a b:List ab)(y:ab):List ab×Int:=u9 a b y a.length
theorem q4c{a b:List ab}{y:ab}:∀{n:Nat},(u9 a b y n).2=0→(u9 a b y n).1.length=n∧∀j,j<n→NF (gz (u9 a b y n).1 j)∧fv (gz (u9 a b y n).1 j)=fv (gz a j)-fv y*fv (gz b j)
 |0,_=>⟨rfl,fun j hj=>by omega⟩
 |n+1,h=>by
  have h1:(u9 a b y n).2=0:=by
   refine Classical.byContradiction fun h1=> ?_
   rw[u9,bg h1]at h;exact h1 h
  obtain⟨i1,i2⟩:=q4c h1;rw[u9,bu h1]at h⊢;by_cases h2:(mg y (gz b n)).2=0
  ·rw[bu h2]at h⊢;by_cases h3:(qba (gz a n) (mg y (gz b n)).1).2=0
   ·rw[bu h3];obtain⟨_,_,_,m4⟩:=jbo h2;obtain⟨_,_,s3,s4⟩:=jbp h3;refine⟨by simp[i1],fun j hj=> ?_⟩;show NF (((u9 a b y n).1++[(qba (gz a n) (mg y (gz b n)).1).1]).getD j ab.z)∧fv (((u9 a b y n).1++[(qba (gz a n) (mg y (gz b n)).1).1]).getD j ab.z)=_;rw[List.getD_eq_getElem?_getD];by_cases e:j=n
    ·subst e;rw[List.getElem?_append_right (by omega),i1,Nat.sub_self];exact⟨s3,by rw[←m4];exact s4⟩
    ·rw[List.getElem?_append_left (by omega),←List.getD_eq_getElem?_getD];exact i2 j (by omega)
   ·rw[bg h3]at h;exact absurd h h3
  ·rw[bg h2]at h;exact absurd h h2
theorem q9u{a b:List ab}{y:ab}:∀{n:Nat},(u9 a b y n).2≠0→(u9 a b y n).1=[]
 |0,h=>rfl
 |n+1,h=>by
  rw[u9]at h⊢;by_cases h1:(u9 a b y n).2=0
  ·rw[bu h1]at h⊢;by_cases h2:(mg y (gz b n)).2=0
   ·rw[bu h2]at h⊢;by_cases h3:(qba (gz a n) (mg y (gz b n)).1).2=0
    ·rw[bu h3]at h;exact absurd rfl h
    ·rw[bg h3]
   ·rw[bg h2]
  ·rw[bg h1];exact q9u h1
theorem jb9{a b:List ab}(y:ab)(c:List ab)(t3:Int)(ws:List (List ab))(bs:List Int)(hab:a.length≤b.length)(hl:a.length≤100000):
  fa a b y c t3 0 ws bs=some (c,t3,(qcm a b y).2,ws,bs,(qcm a b y).1):=by
 have h:=qi7 (step:=fun s:Int×List ab×Int×Int×List (List ab)×List Int×List ab=>ff (R:=LR (Int×List ab×Int×Int×List (List ab)×List Int×List ab) (List ab×Int×Int×List (List ab)×List Int×List ab) (List ab×Int×Int×List (List ab)×List Int×List ab)) a b (a.length:Int) y.1 y.2.1 s.1 s.2.1 s.2.2.1 s.2.2.2.1 s.2.2.2.2.1 s.2.2.2.2.2.1 s.2.2.2.2.2.2 (fun a' =>some (.next a')) (fun e=>some (.done e)) (fun r=>some (.ret r)))
  a.length (cr (by omega)) (u9 a b y) (fun i o=>((i:Int),c,t3,0,ws,bs,o)) (fun o=>(c,t3,0,ws,bs,o)) (fun x=>(c,t3,x.2,ws,bs,[])) rfl (fun i _ h0=>by rw[u9,bg h0]) (fun i hi h0=>by
   have hib:i<b.length:=by omega
   have hout:=(q4c h0).1;unfold ff;simp(disch:=omega)only[qxs,q25,bp,rs];rw[u9,bu h0];by_cases m0:(mg y (gz b i)).2=0
   ·have m0' :(mg (y.1,y.2.1,()) (b.getD i ab.z)).2=0:=m0;by_cases m1:(qba (gz a i) (mg y (gz b i)).1).2=0
    ·have m1' :(qba (a.getD i ab.z) (mg (y.1,y.2.1,()) (b.getD i ab.z)).1).2=0:=m1;simp only[m0,m1,m0',m1',decide_true,cond_true,if_true,Bool.not_true,cond_false,am];simp(disch:=omega)only[rs];rfl
    ·have m1' :¬(qba (a.getD i ab.z) (mg (y.1,y.2.1,()) (b.getD i ab.z)).1).2=0:=m1;simp only[m0,m1,m0',m1',decide_true,cond_true,decide_false,Bool.not_false,if_false,Bool.not_true,cond_false];simp(disch:=omega)only[rs];rfl
   ·have m0' :¬(mg (y.1,y.2.1,()) (b.getD i ab.z)).2=0:=m0;simp only[m0,m0',decide_false,cond_false,if_false,Bool.not_false,cond_true];rfl) (fun _=>by unfold ff;simp(disch:=omega)only[rs]) (0,c,t3,0,ws,bs,[]) rfl
 have h:uk a b (a.length:Int) y.1 y.2.1 (0,c,t3,0,ws,bs,[])=_:=h;unfold fa qcm;rw[h,af];by_cases h0:(u9 a b y a.length).2=0
 ·rw[if_pos h0,g9,h0]
 ·rw[if_neg h0,qtl,q9u h0]
theorem qov{a b:List ab}{y:ab}(h:(qcm a b y).2=0):(qcm a b y).1.length=a.length∧∀j,j<a.length→NF (gz (qcm a b y).1 j)∧fv (gz (qcm a b y).1 j)=fv (gz a j)-fv y*fv (gz b j):=q4c h
def qix(a:List ab)(y:ab):Nat→List ab×Int
 |0=>([],0)
 |n+1=>bif decide ((qix a y n).2=0)then((qix a y n).1++[(u4 (gz a n) y).1],(u4 (gz a n) y).2)else qix a y n
def wv(a:List ab)(y:ab):List ab×Int:=qix a y a.length
theorem qug{a:List ab}{y:ab}:∀{n:Nat},(qix a y n).2=0→(qix a y n).1.length=n∧∀j,j<n→NF (gz (qix a y n).1 j)∧fv (gz (qix a y n).1 j)=fv (gz a j)/fv y
 |0,_=>⟨rfl,fun j hj=>by omega⟩
 |n+1,h=>by
  have h1:(qix a y n).2=0:=by
   refine Classical.byContradiction fun h1=> ?_
   rw[qix,bg h1]at h;exact h1 h
  obtain⟨i1,i2⟩:=qug h1;rw[qix,bu h1]at h⊢;have h:(u4 (gz a n) y).2=0:=h;obtain⟨_,_,s3,s4⟩:=jja h;refine⟨by simp[i1],fun j hj=> ?_⟩;show NF (((qix a y n).1++[(u4 (gz a n) y).1]).getD j ab.z)∧fv (((qix a y n).1++[(u4 (gz a n) y).1]).getD j ab.z)=_;rw[List.getD_eq_getElem?_getD];by_cases e:j=n
  ·subst e;rw[List.getElem?_append_right (by omega),i1,Nat.sub_self];exact⟨s3,s4⟩
  ·rw[List.getElem?_append_left (by omega),←List.getD_eq_getElem?_getD];exact i2 j (by omega)
theorem jvp(i k:Int){a:List ab}(y:ab)(c:List ab)(t3:Int)(ws:List (List ab))(bs:List Int)(hl:a.length≤100000):
  nz i k a (a.length:Int) y.1 y.2.1 (0,c,t3,0,ws,bs,[])=some (if(wv a y).2=0 then .inl (c,t3,0,ws,bs,(wv a y).1)else .inr (c,t3,(wv a y).2,ws,bs)):=
 qi7 (step:=fun s:Int×List ab×Int×Int×List (List ab)×List Int×List ab=>gi (R:=LR (Int×List ab×Int×Int×List (List ab)×List Int×List ab) (List ab×Int×Int×List (List ab)×List Int×List ab) (List ab×Int×Int×List (List ab)×List Int)) i k a (a.length:Int) y.1 y.2.1 s.1 s.2.1 s.2.2.1 s.2.2.2.1 s.2.2.2.2.1 s.2.2.2.2.2.1 s.2.2.2.2.2.2 (fun a' =>some (.next a')) (fun e=>some (.done e)) (fun r=>some (.ret r)))
  a.length (cr (by omega)) (qix a y) (fun i o=>((i:Int),c,t3,0,ws,bs,o)) (fun o=>(c,t3,0,ws,bs,o)) (fun x=>(c,t3,x.2,ws,bs)) rfl (fun i _ h0=>by rw[qix,bg h0]) (fun i hi h0=>by
   have hout:=(qug h0).1;unfold gi;simp(disch:=omega)only[jm3,bp,rs];rw[qix,bu h0];by_cases m0:(u4 (gz a i) y).2=0
   ·have m0' :(u4 (a.getD i ab.z) (y.1,y.2.1,())).2=0:=m0;simp only[m0,m0',decide_true,cond_true,if_true,Bool.not_true,cond_false,am];rfl
   ·have m0' :¬(u4 (a.getD i ab.z) (y.1,y.2.1,())).2=0:=m0;simp only[m0,m0',decide_false,cond_false,if_false,Bool.not_false,cond_true];rfl) (fun _=>by unfold gi;simp(disch:=omega)only[rs]) _ rfl
end Go.Proofs.YteljgpepodpebaaGreat
