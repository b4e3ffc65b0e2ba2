/-
  The tableau: what a pivot comes to; the row whose variable leaves.
-/
import Derived.Test.YteljgpepodpebaaGreatZ3F5
set_option linter.all false
namespace Go.Proofs.YteljgpepodpebaaGreat
open Go.K Go.M
abbrev gb(l:List Int)(i:Nat):Int:=l.getD i 0
structure TI (m e : Nat) (c : List ab) (R : List (List ab)) (bs : List Int) : Prop where
 rl : R.length = m
 rw : ∀ l, l < m → (ci R l).length = e + 1
 rn : ∀ l j, l < m → j < e + 1 → NF (gz (ci R l) j)
 cl : c.length = e + 1
 cn : ∀ j, j < e + 1 → NF (gz c j)
 bl : bs.length = m
 bn : ∀ l, l < m → 0 ≤ gb bs l ∧ gb bs l < e
def tb(c:List ab)(R:List (List ab))(bs:List Int):Tb:=⟨fun i j=>fv (gz (ci R i) j),fun j=>fv (gz c j),fun i=>(gb bs i).toNat⟩
theorem j1t:fv ab.z=0:=by
 show((0:Int):Rat)/((0:Int):Rat)=0;rw[Rat.intCast_zero,Rat.div_def,Rat.zero_mul]
theorem qx9{l:List ab}{j:Nat}(h:l.length≤j):fv (gz l j)=0:=by
 simp only[gz,List.getD_eq_getElem?_getD,List.getElem?_eq_none h,Option.getD_none];exact j1t
theorem jg8{R:List (List ab)}{l j:Nat}(h:R.length≤l):fv (gz (ci R l) j)=0:=by
 simp only[ci,List.getD_eq_getElem?_getD,List.getElem?_eq_none h,Option.getD_none];exact qx9 (by simp)
theorem qyc{a b:List ab}{y:ab}(h:(qcm a b y).2=0)(hab:a.length=b.length)(j:Nat):fv (gz (qcm a b y).1 j)=fv (gz a j)-fv y*fv (gz b j):=by
 obtain⟨h1,h2⟩:=qov h;by_cases hj:j<a.length
 ·exact(h2 j hj).2
 ·rw[qx9 (by omega),qx9 (by omega),qx9 (by omega)]
  grind
theorem jnz{a:List ab}{y:ab}(h:(wv a y).2=0)(j:Nat):fv (gz (wv a y).1 j)=fv (gz a j)/fv y:=by
 obtain⟨h1,h2⟩:=qug (show(qix a y a.length).2=0 from h);by_cases hj:j<a.length
 ·exact(h2 j hj).2
 ·rw[qx9 (by show(qix a y a.length).1.length≤j;omega),qx9 (by omega),Rat.div_def,Rat.zero_mul]
theorem joc{bs:List Int}{i l:Nat}{x:Int}:gb (bs.set i x) l=if l=i∧i<bs.length then x else gb bs l:=by
 simp only[gb,List.getD_eq_getElem?_getD,List.getElem?_set];by_cases h:i=l
 ·subst h;by_cases h2:i<bs.length
  ·simp[h2]
  ·simp[h2,List.getElem?_eq_none (Nat.le_of_not_lt h2)]
 ·rw[if_neg h,if_neg (fun e=>h e.1.symm)]
theorem qq7{i k:Nat}{c:List ab}{R:List (List ab)}{bs:List Int}:(rg i k c R bs).1.2.1.length=R.length∧(rg i k c R bs).1.2.2.length=bs.length:=by
 have h:=zy (i:=i) (k:=k) (row:=(wv (ci R i) (gz (ci R i) k)).1) (R0:=R.set i (wv (ci R i) (gz (ci R i) k)).1) R.length;rw[List.length_set]at h;unfold rg;cases decide ((wv (ci R i) (gz (ci R i) k)).2=0)with
 |false=>exact⟨rfl,rfl⟩
 |true=>
  cases decide ((eh i k (wv (ci R i) (gz (ci R i) k)).1 (R.set i (wv (ci R i) (gz (ci R i) k)).1) R.length).2=0)with
  |false=>exact⟨h,by simp⟩
  |true=>
   cases decide ((gz c k).1=0)with
   |false=>exact⟨h,by simp⟩
   |true=>exact⟨h,by simp⟩
theorem jjs{m e i k:Nat}{c:List ab}{R:List (List ab)}{bs:List Int}(h:TI m e c R bs)(hi:i<m)(hk:k<e)(h0:(rg i k c R bs).2=0):
  TI m e (rg i k c R bs).1.1 (rg i k c R bs).1.2.1 (rg i k c R bs).1.2.2∧tb (rg i k c R bs).1.1 (rg i k c R bs).1.2.1 (rg i k c R bs).1.2.2=(tb c R bs).piv i k:=by
 obtain⟨rl,rw',rn,cl,cn,bl,bn⟩:=h;have hlens:=qq7 (i:=i) (k:=k) (c:=c) (R:=R) (bs:=bs);unfold rg at h0 hlens⊢;by_cases d0:(wv (ci R i) (gz (ci R i) k)).2=0
 ·rw[bu d0]at h0 hlens⊢;obtain⟨dl,dn⟩:=qug (show(qix (ci R i) (gz (ci R i) k) (ci R i).length).2=0 from d0);have dv:=jnz d0;have dl:(wv (ci R i) (gz (ci R i) k)).1.length=e+1:=by rw[←rw' i hi];exact dl
  have dn:∀j,j<e+1→NF (gz (wv (ci R i) (gz (ci R i) k)).1 j):=fun j hj=>(dn j (by rw[rw' i hi];exact hj)).1
  generalize(wv (ci R i) (gz (ci R i) k)).1=row at*;by_cases r0:(eh i k row (R.set i row) R.length).2=0
  ·rw[bu r0]at h0 hlens⊢;have hw2:∀l,l<(R.set i row).length→(ci (R.set i row) l).length=e+1:=fun l hl' =>by
    rw[qys];split
    ·exact dl
    ·exact rw' l (by simpa[rl]using hl')
   have rat:=qvu r0;have rwd:=fun l (hl:l<m)=>jj1 hw2 r0 (l:=l) (by simpa[rl]using hl)
   have rlen:(eh i k row (R.set i row) R.length).1.length=m:=by rw[zy];simpa using rl
   have hrow:∀l j,fv (gz (ci (eh i k row (R.set i row) R.length).1 l) j)=if l=i then fv (gz row j)else fv (gz (ci R l) j)-fv (gz (ci R l) k)*fv (gz row j):=by
    intro l j;by_cases e1:l=i
    ·rw[if_pos e1,(rat l).2 (fun hh=>hh.2.1 e1),qys,if_pos ⟨e1,by omega⟩]
    ·rw[if_neg e1];have hg:ci (R.set i row) l=ci R l:=by rw[qys,if_neg (fun hh=>e1 hh.1)]
     by_cases hl:l<m
     ·by_cases e2:(gz (ci R l) k).1=0
      ·rw[(rat l).2 (fun hh=>hh.2.2.2 (by rw[hg];exact e2)),hg,(qoz (rn l k hl (by omega))).1 e2]
       grind
      ·obtain⟨l1,l2⟩:=(rat l).1 ⟨by omega,e1,by simp;omega,by rw[hg];exact e2⟩;rw[l2,qyc l1 (by rw[hw2 l (by simp;omega),dl]),hg]
     ·rw[jg8 (by omega),jg8 (by omega),jg8 (by omega)]
      grind
   have hrn:∀l j,l<m→j<e+1→NF (gz (ci (eh i k row (R.set i row) R.length).1 l) j):=by
    intro l j hl hj;by_cases hc:l<R.length∧l≠i∧l<(R.set i row).length∧(gz (ci (R.set i row) l) k).1≠0
    ·obtain⟨l1,l2⟩:=(rat l).1 hc;rw[l2];exact((qov l1).2 j (by rw[hw2 l hc.2.2.1];exact hj)).1
    ·rw[(rat l).2 hc,qys];split
     ·exact dn j hj
     ·exact rn l j hl hj
   have hbn:∀l,l<m→0≤gb (bs.set i (k:Int)) l∧gb (bs.set i (k:Int)) l<e:=fun l hl=>by
    rw[joc];split
    ·omega
    ·exact bn l hl
   have hB:(fun l=>(gb (bs.set i (k:Int)) l).toNat)=fun l=>if l=i then k else(gb bs l).toNat:=by
    funext l;rw[joc];by_cases e1:l=i
    ·rw[if_pos ⟨e1,by omega⟩,if_pos e1];omega
    ·rw[if_neg (fun hh=>e1 hh.1),if_neg e1]
   have hA:(fun l j=>fv (gz (ci (eh i k row (R.set i row) R.length).1 l) j))=fun l j=>if l=i then fv (gz (ci R i) j)/fv (gz (ci R i) k)else fv (gz (ci R l) j)-fv (gz (ci R l) k)*(fv (gz (ci R i) j)/fv (gz (ci R i) k)):=by
    funext l j;rw[hrow,dv]
   by_cases c0:(gz c k).1=0
   ·rw[bu c0]at h0 hlens⊢;refine⟨⟨rlen,rwd,hrn,cl,cn,by simpa using bl,hbn⟩,?_⟩;simp only[tb,Tb.piv,hA,hB];congr 1;funext j;rw[(qoz (cn k (by omega))).1 c0]
    grind
   ·rw[bg c0]at h0 hlens⊢;obtain⟨l1,l2⟩:=qov h0;refine⟨⟨rlen,rwd,hrn,by rw[←cl];exact l1,fun j hj=>(l2 j (by omega)).1,by simpa using bl,hbn⟩,?_⟩;simp only[tb,Tb.piv,hA,hB];congr 1;funext j;rw[qyc h0 (by omega),dv]
  ·rw[bg r0]at h0;exact absurd h0 r0
 ·rw[bg d0]at h0;exact absurd h0 d0
def ay(k:Nat)(R:List (List ab))(bs:List Int):Nat→(Int×ab)×Int
 |0=>((-1,ab.z),0)
 |n+1=>
  bif decide ((ay k R bs n).2=0)then
   bif decide ((gz (ci R n) k).1≤0)then ay k R bs n
   else
    bif decide ((u4 (gz (ci R n) ((ci R n).length-1)) (gz (ci R n) k)).2=0)then
     bif decide (0≤(ay k R bs n).1.1)then
      bif decide ((qdh (u4 (gz (ci R n) ((ci R n).length-1)) (gz (ci R n) k)).1 (ay k R bs n).1.2).1<0)then(((n:Int),(u4 (gz (ci R n) ((ci R n).length-1)) (gz (ci R n) k)).1),0)
      else bif decide ((qdh (u4 (gz (ci R n) ((ci R n).length-1)) (gz (ci R n) k)).1 (ay k R bs n).1.2).1=0)then
       bif decide (gb bs n<gb bs (ay k R bs n).1.1.toNat)then(((n:Int),(u4 (gz (ci R n) ((ci R n).length-1)) (gz (ci R n) k)).1),0)else ay k R bs n
      else ay k R bs n
     else(((n:Int),(u4 (gz (ci R n) ((ci R n).length-1)) (gz (ci R n) k)).1),0)
    else((-1,ab.z),(u4 (gz (ci R n) ((ci R n).length-1)) (gz (ci R n) k)).2)
  else ay k R bs n
section
variable {k : Nat} {R : List (List ab)} {bs : List Int}
theorem qtj{n:Nat}(h:(ay k R bs n).2≠0):ay k R bs (n+1)=ay k R bs n:=by rw[ay,bg h]
theorem je3{n:Nat}(h:(ay k R bs (n+1)).2=0):(ay k R bs n).2=0:=by
 refine Classical.byContradiction fun h1=> ?_
 rw[qtj h1]at h;exact h1 h
theorem q9r:∀n,-1≤(ay k R bs n).1.1∧(ay k R bs n).1.1<n
 |0=>⟨by show(-1:Int)≤-1;omega,by show(-1:Int)<0;omega⟩
 |n+1=>by
  obtain⟨h1,h2⟩:=q9r n;have hs: -1≤(ay k R bs n).1.1∧(ay k R bs n).1.1<((n+1:Nat):Int):=⟨h1,by omega⟩;have hn:∀x:ab,-1≤((((n:Int),x),(0:Int)):(Int×ab)×Int).1.1∧((((n:Int),x),(0:Int)):(Int×ab)×Int).1.1<((n+1:Nat):Int):=fun x=>⟨by show-1≤(n:Int);omega,by show(n:Int)<_;omega⟩
  unfold ay;cases decide ((ay k R bs n).2=0)with
  |false=>exact hs
  |true=>
   cases decide ((gz (ci R n) k).1≤0)with
   |true=>exact hs
   |false=>
    cases decide ((u4 (gz (ci R n) ((ci R n).length-1)) (gz (ci R n) k)).2=0)with
    |false=>exact⟨by show(-1:Int)≤-1;omega,by show(-1:Int)<_;omega⟩
    |true=>
     cases decide (0≤(ay k R bs n).1.1)with
     |false=>exact hn _
     |true=>
      cases decide ((qdh (u4 (gz (ci R n) ((ci R n).length-1)) (gz (ci R n) k)).1 (ay k R bs n).1.2).1<0)with
      |true=>exact hn _
      |false=>
       cases decide ((qdh (u4 (gz (ci R n) ((ci R n).length-1)) (gz (ci R n) k)).1 (ay k R bs n).1.2).1=0)with
       |false=>exact hs
       |true=>
        cases decide (gb bs n<gb bs (ay k R bs n).1.1.toNat)with
        |true=>exact hn _
        |false=>exact hs
theorem jot{m e1:Nat}{c:List ab}(t3:Int)(hR:R.length=m)(hw:∀l,l<m→(ci R l).length=e1)(hb:bs.length=m)(hk:k<e1)(he:e1≤100000)(hm:m≤100000):
  k9 (k:Int) c t3 0 R bs=some ((ay k R bs m).1.1,c,t3,(ay k R bs m).2,R,bs):=by
 have h:=qi7 (step:=fun s:Int×Int×List ab×Int×Int×List (List ab)×List Int×Int×Int=>fe (R:=LR (Int×Int×List ab×Int×Int×List (List ab)×List Int×Int×Int) (Int×List ab×Int×Int×List (List ab)×List Int) (Int×List ab×Int×Int×List (List ab)×List Int)) (k:Int) (R.length:Int) s.1 s.2.1 s.2.2.1 s.2.2.2.1 s.2.2.2.2.1 s.2.2.2.2.2.1 s.2.2.2.2.2.2.1 s.2.2.2.2.2.2.2.1 s.2.2.2.2.2.2.2.2 (fun a' =>some (.next a')) (fun e=>some (.done e)) (fun r=>some (.ret r)))
  m (cr (by omega)) (ay k R bs) (fun n x=>(x.1,(n:Int),c,t3,0,R,bs,x.2.1,x.2.2.1)) (fun x=>(x.1,c,t3,0,R,bs)) (fun x=>(-1,c,t3,x.2,R,bs)) rfl (fun n _ h0=>qtj h0) (fun n hn h0=>by
   have hwn:=hw n hn;have hwn' :(R.getD n []).length=e1:=hwn;obtain⟨hb1,hb2⟩:=q9r (k:=k) (R:=R) (bs:=bs) n;unfold fe;dsimp only;rw[ay,bu h0,bi (show(n:Int)<(R.length:Int) by omega),ao (by omega) (by omega),ao (by omega) (by omega)];simp only[Int.toNat_natCast];rw[ao (by omega) (by omega),ao (by omega) (by omega)];by_cases c1:(gz (ci R n) k).1≤0
   ·have c1' :((R.getD n []).getD k ab.z).1≤0:=c1;simp only[c1,c1',decide_true,cond_true,h0,if_true];rw[bk (by omega) (by omega),am]
   ·have c1' :¬((R.getD n []).getD k ab.z).1≤0:=c1;simp only[c1,c1',decide_false,cond_false];rw[bk (by omega) (by omega),ao (by omega) (by omega),ao (by omega) (by omega),ao (by omega) (by omega),ao (by omega) (by omega),jm3,af];rw[show(((R.getD n []).length:Int)-1).toNat=(R.getD n []).length-1 by omega];show(bnd (bp (u4 (gz (ci R n) ((ci R n).length-1)) (gz (ci R n) k)).1 (u4 (gz (ci R n) ((ci R n).length-1)) (gz (ci R n) k)).2 c t3 0 R bs) _)=_;generalize hq:u4 (gz (ci R n) ((ci R n).length-1)) (gz (ci R n) k)=q;rw[show bp q.1 q.2 c t3 0 R bs=some (q.1,c,t3,q.2,R,bs)from rfl,af];simp only[decide_true,lf];by_cases c2:q.2=0
    ·simp only[c2,decide_true,Bool.not_true,cond_false,cond_true];by_cases c3:0≤(ay k R bs n).1.1
     ·simp only[c3,decide_true,cond_true];rw[ja5,af];show(bif decide ((qdh q.1 (ay k R bs n).1.2).1<0)then _ else _)=_;by_cases c4:(qdh q.1 (ay k R bs n).1.2).1<0
      ·simp only[c4,decide_true,cond_true,if_true];rw[bk (by omega) (by omega),am]
      ·simp only[c4,decide_false,cond_false];show(bif decide ((qdh q.1 (ay k R bs n).1.2).1=0)then _ else _)=_;by_cases c5:(qdh q.1 (ay k R bs n).1.2).1=0
       ·simp only[c5,decide_true,cond_true];rw[ao (by omega) (by omega),ao (by omega) (by omega),ao (by omega) (by omega),ao (by omega) (by omega)];by_cases c6:gb bs n<gb bs (ay k R bs n).1.1.toNat
        ·have c6' :bs.getD n 0<bs.getD (ay k R bs n).1.1.toNat 0:=c6;simp only[c6,c6',decide_true,cond_true,if_true];rw[bk (by omega) (by omega),am]
        ·have c6' :¬bs.getD n 0<bs.getD (ay k R bs n).1.1.toNat 0:=c6;simp only[c6,c6',decide_false,cond_false,h0,if_true];rw[bk (by omega) (by omega),am]
       ·simp only[c5,decide_false,cond_false,h0,if_true];rw[bk (by omega) (by omega),am]
     ·simp only[c3,decide_false,cond_false,if_true];rw[bi (show(-1:Int)<0 by omega),bk (by omega) (by omega),am]
    ·simp only[c2,decide_false,Bool.not_false,cond_true,cond_false,if_false]) (fun _=>by unfold fe;rw[bj (show(R.length:Int)≤(m:Int) by omega)]) (-1,0,c,t3,0,R,bs,0,0) rfl
 have h:ui (k:Int) (R.length:Int) (-1,0,c,t3,0,R,bs,0,0)=_:=h;unfold k9;rw[h,af];by_cases h0:(ay k R bs m).2=0
 ·rw[if_pos h0,g9,h0]
 ·rw[if_neg h0,qtl];have:∀n,(ay k R bs n).2≠0→(ay k R bs n).1.1= -1:=by
   intro n
   induction n with
   |zero=>intro h;rfl
   |succ n ih=>
    intro h;by_cases h1:(ay k R bs n).2=0
    ·rw[ay,bu h1]at h⊢;cases c1:decide ((gz (ci R n) k).1≤0)with
     |true=>rw[c1]at h;exact absurd h1 h
     |false=>
      rw[c1]at h;cases c2:decide ((u4 (gz (ci R n) ((ci R n).length-1)) (gz (ci R n) k)).2=0)with
      |false=>rfl
      |true=>
       rw[c2]at h;exfalso;revert h;cases decide (0≤(ay k R bs n).1.1)<;>cases decide ((qdh (u4 (gz (ci R n) ((ci R n).length-1)) (gz (ci R n) k)).1 (ay k R bs n).1.2).1<0)<;>cases decide ((qdh (u4 (gz (ci R n) ((ci R n).length-1)) (gz (ci R n) k)).1 (ay k R bs n).1.2).1=0)<;>cases decide (gb bs n<gb bs (ay k R bs n).1.1.toNat)<;>simp[h1]
    ·rw[qtj h1];exact ih h1
  rw[this m h0]
end
end Go.Proofs.YteljgpepodpebaaGreat
