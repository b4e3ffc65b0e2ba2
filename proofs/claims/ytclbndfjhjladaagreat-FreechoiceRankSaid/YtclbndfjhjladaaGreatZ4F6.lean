/-
  Flow: Places and Transitions of the program.
-/
import Derived.Test.YtclbndfjhjladaaGreatZ4F5
set_option linter.all false
namespace Go.Proofs.YtclbndfjhjladaaGreat
open Go.K Go.M
def qm8(l:List Int):Bool:=l.any fun k=>decide (1048576<k)
def jli(d:Rw):Rw×Int:=bif decide (1000<d.length)then([],5)else bif (srt d).any qm8 then([],6)else(srt d,0)
theorem j5p(l:List Int)(hl:l.length≤1000000):dm l=some (qm8 l):=by
 have hL:oc l (l.length:Int) 0=some (jfr (fun i=>(i:Int)) (qba (fun k=>decide (1048576<k)) l)):=by
  refine ua l 0 (fun k=>decide (1048576<k)) (fun i=>(i:Int)) (by omega) (fun i hi=> ?_) ?_
  ·simp(disch:=omega)only[dq,qg4,rs];rw[ag];cases decide (1048576<l.getD i 0)<;>rfl
  ·simp(disch:=omega)only[dq,rs]
 unfold dm jd qm8;rw[hL,au,qis,au,qir]
theorem j10(lf d:Rw)(hs:∀x∈d,x.length≤1000000)(hl:d.length<20000):tc lf d=some (.inr (jli d)):=by
 have e1:jw d=_:=jta (by omega);have hp:=qa8 d;have hlen:(srt d).length=d.length:=hp.length_eq;have e2:qrl (srt d) (srt d) ((srt d).length:Int) 0=some (bif (srt d).any qm8 then .inr ([],6)else .inl ()):=by
  refine f7 (srt d) [] qm8 ([],6) (by omega) (fun i hi=> ?_) ?_
  ·have hb:=j5p ((srt d).getD i []) (hs _ (hp.mem_iff.1 (ao [] hi)));simp(disch:=omega)only[wj,hb,rs];rw[ag];cases qm8 ((srt d).getD i [])<;>rfl
  ·simp(disch:=omega)only[wj,rs]
 unfold tc qe1 jli;rw[e1,au,pg (decide_eq_true hlen),hlen,←hlen,e2,hlen];have e3:decide ((1000:Int)<(d.length:Int))=decide (1000<d.length):=decide_eq_decide.2 (by omega);rw[e3];cases decide (1000<d.length)<;>cases(srt d).any qm8<;>rfl
def mz(n m:Nat)(A:Nat→Nat→Int):Rw:=bh n fun p=>bh m fun j=>A p j
theorem yh(n m:Nat)(A:Nat→Nat→Int):(mz n m A).length=n:=bn _ _
theorem jfb{n m:Nat}{A:Nat→Nat→Int}{i:Nat}(hi:i<n):(mz n m A).getD i []=bh m fun j=>A i j:=di hi
theorem jo6{n i:Nat}:(List.replicate n (0:Int)).set i 1=ru n i:=by
 rw[qa9,ml];rfl
theorem jue(m:Nat):lb 0 m []=[]:=by
 induction m with
 |zero=>rfl
 |succ m ih=>
  unfold lb at ih⊢;rw[List.range_succ,List.foldl_append,ih];rfl
section
variable {n m : Nat} {A : Nat → Nat → Int} (hA : ∀ i j, -1 ≤ A i j ∧ A i j ≤ 1) (hn : n ≤ 14) (hm : m ≤ 14) (hs : m ≤ 12 ∨ n ≤ 12)
include hn hm in
theorem j07:qrj (mz n m A) (mz n m A) ((mz n m A).length:Int) (0,[],[])=some (.inl (lfE (fc n m A),mn (fc n m A))):=by
 refine a9 (fun i:Nat=>((i:Int),lfE (bh i fun p=>(bh m fun j=>A p j,ru n p)),mn (bh i fun p=>(bh m fun j=>A p j,ru n p)))) n (aw (by omega)) _ (fun i hi=> ?_) ?_ _ rfl
 ·have hc:=vg (bh m fun j=>A i j) (by rw[bn];omega);rw[mm,←jcp,←jcx];simp(disch:=omega)only[wh,yh,jfb hi,hc,qe2,g8,bn,List.length_replicate,jo6,rs];rw[ag]
 ·simp(disch:=omega)only[wh,yh,rs];rfl
include hA hn hm hs in
theorem j08:qrk (m:Int) (0,lfE (fc n m A),mn (fc n m A))=some (.inl (lfE (lb n m (fc n m A)),mn (lb n m (fc n m A)))):=by
 refine a9 (fun c:Nat=>((c:Int),lfE (lb n c (fc n m A)),mn (lb n c (fc n m A)))) m (aw (by omega)) _ (fun c hc=> ?_) ?_ _ rfl
 ·have hG:=qch (qh8 n m A) c (by omega);have h1:=j0p hA hG hc hn (by omega) (by omega);have e:lb n (c+1) (fc n m A)=qd1 n c (lb n c (fc n m A)):=by
   unfold lb;rw[List.range_succ,List.foldl_append];rfl
  rw[e];simp(disch:=omega)only[wi,h1,Bool.not_true,rs];rw[ag]
 ·simp(disch:=omega)only[wi,rs]
theorem jaw{L:List br}{x:List Int}:x∈mn L↔∃r∈L,r.2=x:=List.mem_map
include hA hn hm hs in
theorem jc1:za (mz n m A)=some (jli (mn (lb n m (fc n m A)))):=by
 have hG:=qch (qh8 n m A) m (Nat.le_refl _);have hlen:=zo hG hn;have e3:tc (lfE (lb n m (fc n m A))) (mn (lb n m (fc n m A)))=_:=j10 _ _ (fun x hx=>by
  obtain⟨r,hr,rfl⟩:=jaw.1 hx;have:=(hG.row r hr).len;omega) (by rw[g8];omega)
 have e0:=j07 (A:=A) hn hm;have e1:=j08 hA hn hm hs;unfold za;rw[e0,au,mo];by_cases h0:0<n
 ·have h00:(mz n m A).getD 0 []=bh m fun j=>A 0 j:=jfb h0
  simp(disch:=omega)only[yh,h00,bn,e1,e3,rs]
 ·obtain rfl:n=0:=by omega
  have es:fc 0 m A=[]:=rfl;rw[es,jue]at e3⊢;simp(disch:=omega)only[yh,e3,rs]
end
def AP(n:ca)(p j:Nat):Int:=jfx (n.2.1.getD j af.z) (p:Int)
def AT(n:ca)(t p:Nat):Int:=jfx (n.2.1.getD t af.z) (p:Int)
section
variable {n : ca} (h : Small n) (hN : n.1 ≤ 40)
include h in
theorem j86(p:Nat)(a b:Int)(n1 n2 n3:Int)(M:Rw):qu8 (p:Int) a b n.2.1 (n.2.1.length:Int) n1 n.2.1 n2 n3 M (0,[])=some (.inl (bh n.2.1.length fun j=>AP n p j)):=by
 have hl:=h.trans;refine a9 (fun i:Nat=>((i:Int),bh i fun j=>AP n p j)) n.2.1.length (aw (by omega)) _ (fun i hi=> ?_) ?_ _ rfl
 ·have ht:=ao af.z hi;have h1:=h.ins _ ht;have h2:=h.outs _ ht;have e:=jg8 (n.2.1.getD i af.z) (p:Int) (by omega) (by omega);rw[mm];simp(disch:=omega)only[yz,e,bn,rs];rw[ag];rfl
 ·simp(disch:=omega)only[yz,rs]
include h in
theorem j87(N:Nat)(hN:N≤40)(n1 n2 n3:Int):qjq (N:Int) n1 n.2.1 n2 n3 (0,[])=some (.inl (mz N n.2.1.length (AP n))):=by
 refine a9 (fun i:Nat=>((i:Int),mz i n.2.1.length (AP n))) N (aw (by omega)) _ (fun i hi=> ?_) ?_ _ rfl
 ·have e:=j86 h i (N:Int) (i:Int) n1 n2 n3 (mz i n.2.1.length (AP n));have e2:mz (i+1) n.2.1.length (AP n)=mz i n.2.1.length (AP n)++[bh n.2.1.length fun j=>AP n i j]:=mm _ _;rw[e2];simp(disch:=omega)only[y0,e,yh,rs];rw[ag]
 ·simp(disch:=omega)only[y0,rs]
include h in
theorem j9k(t:Nat)(ht:t<n.2.1.length)(N:Nat)(hN:N≤40)(a b n1 n2 n3:Int)(v:List af)(w:List af)(M:Rw):qg1 v a b (N:Int) n1 w n2 n3 M (n.2.1.getD t af.z).1 (n.2.1.getD t af.z).2.1 (n.2.1.getD t af.z).2.2.1 (0,[])=some (.inl (bh N fun p=>AT n t p)):=by
 have hm:=ao af.z ht;have h1:=h.ins _ hm;have h2:=h.outs _ hm;refine a9 (fun i:Nat=>((i:Int),bh i fun p=>AT n t p)) N (aw (by omega)) _ (fun i hi=> ?_) ?_ _ rfl
 ·have e:=jg8 (n.2.1.getD t af.z) (i:Int) (by omega) (by omega);have e' :x6 ((n.2.1.getD t af.z).1,(n.2.1.getD t af.z).2.1,(n.2.1.getD t af.z).2.2.1,()) (i:Int)=some (jfx (n.2.1.getD t af.z) (i:Int)):=e;rw[mm];simp(disch:=omega)only[m9,e',bn,rs];rw[ag];rfl
 ·simp(disch:=omega)only[m9,rs]
include h in
theorem j9l(N:Nat)(hN:N≤40)(n2 n3:Int)(w:List af):xk n.2.1 (n.2.1.length:Int) (N:Int) w n2 n3 (0,[])=some (.inl (mz n.2.1.length N (AT n))):=by
 have hl:=h.trans;refine a9 (fun i:Nat=>((i:Int),mz i N (AT n))) n.2.1.length (aw (by omega)) _ (fun i hi=> ?_) ?_ _ rfl
 ·have e:=j9k h i hi N hN (n.2.1.length:Int) (i:Int) (N:Int) n2 n3 n.2.1 w (mz i N (AT n));have e2:mz (i+1) N (AT n)=mz i N (AT n)++[bh N fun p=>AT n i p]:=mm _ _;rw[e2];simp(disch:=omega)only[na,e,yh,rs];rw[ag]
 ·simp(disch:=omega)only[na,rs]
end
def plE(n:ca):List br:=lb n.1.toNat n.2.1.length (fc n.1.toNat n.2.1.length (AP n))
def trE(n:ca):List br:=lb n.2.1.length n.1.toNat (fc n.2.1.length n.1.toNat (AT n))
def va(n:ca):Bool:=decide (20<n.1)||decide (20<n.2.1.length)
def q8a(n:ca):Rw×Int:=bif !c6 n then([],1)else bif va n then([],5)else jli (mn (plE n))
def jdc(n:ca):Rw×Int:=bif !c6 n then([],1)else bif va n then([],5)else jli (mn (trE n))
def jiq(n:ca):Prop:=(n.1≤12∧n.2.1.length≤14)∨20<n.1∨20<n.2.1.length
theorem jnk(n:ca):qg3 n=some (va n):=by
 unfold qg3 va;have e:decide ((20:Int)<(n.2.1.length:Int))=decide (20<n.2.1.length):=decide_eq_decide.2 (by omega);rw[e];cases decide (20<n.1)<;>rfl
theorem ur{n:ca}(hv:c6 n=true):1≤n.1∧n.1≤40∧n.2.1.length≤60:=by
 unfold c6 at hv;simp only[Bool.and_eq_true,decide_eq_true_eq]at hv;omega
theorem qkv{n:ca}(hf:jiq n)(hl:va n=false):n.1≤12∧n.2.1.length≤14:=by
 unfold va at hl;simp only[Bool.or_eq_false_iff,decide_eq_false_iff_not]at hl;unfold jiq at hf;omega
theorem jto{n:ca}(h:Small n)(hf:jiq n):qik n=some (q8a n):=by
 unfold qik q8a;rw[yu h,jnk];cases hv:c6 n with
 |false=>rfl
 |true=>
  cases hl:va n with
  |true=>rfl
  |false=>
   obtain⟨v1,v2,v3⟩:=ur hv;obtain⟨f1,f2⟩:=qkv hf hl;have e:n.1=(n.1.toNat:Int):=by omega
   have e1:qjq n.1 n.1 n.2.1 n.2.2.1 n.2.2.2.1 (0,[])=some (.inl (mz n.1.toNat n.2.1.length (AP n))):=by
    conv=>lhs;arg 1;rw[e]
    exact j87 h n.1.toNat (by omega) n.1 n.2.2.1 n.2.2.2.1
   have e2:=jc1 (n:=n.1.toNat) (m:=n.2.1.length) (A:=AP n) (fun i j=>jat _ _) (by omega) (by omega) (by omega);simp only[au,Bool.not_true,cond_false,e1,mo,e2];rfl
theorem ja5{n:ca}(h:Small n)(hf:jiq n):t6 n=some (jdc n):=by
 unfold t6 jdc;rw[yu h,jnk];cases hv:c6 n with
 |false=>rfl
 |true=>
  cases hl:va n with
  |true=>rfl
  |false=>
   obtain⟨v1,v2,v3⟩:=ur hv;obtain⟨f1,f2⟩:=qkv hf hl;have e:n.1=(n.1.toNat:Int):=by omega
   have e1:xk n.2.1 (n.2.1.length:Int) n.1 n.2.1 n.2.2.1 n.2.2.2.1 (0,[])=some (.inl (mz n.2.1.length n.1.toNat (AT n))):=by
    conv=>lhs;arg 3;rw[e]
    exact j9l h n.1.toNat (by omega) n.2.2.1 n.2.2.2.1 n.2.1
   have e2:=jc1 (n:=n.2.1.length) (m:=n.1.toNat) (A:=AT n) (fun i j=>jat _ _) (by omega) (by omega) (by omega);simp only[au,Bool.not_true,cond_false,e1,mo,e2];rfl
end Go.Proofs.YtclbndfjhjladaaGreat
