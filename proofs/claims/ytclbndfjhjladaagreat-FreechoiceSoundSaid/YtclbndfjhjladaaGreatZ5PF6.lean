/-
  Flow: Places and Transitions of the program.
-/
import Derived.Test.YtclbndfjhjladaaGreatZ5PF5
set_option linter.all false
namespace Go.Proofs.YtclbndfjhjladaaGreat
open Go.K Go.M
def q76(l:List Int):Bool:=l.any fun k=>decide (1048576<k)
def q8z(d:Rw):Rw×Int:=bif decide (1000<d.length)then([],5)else bif (srt d).any q76 then([],6)else(srt d,0)
theorem jyb(l:List Int)(hl:l.length≤1000000):dz l=some (q76 l):=by
 have hL:ou l (l.length:Int) 0=some (q4y (fun i=>(i:Int)) (vx (fun k=>decide (1048576<k)) l)):=by
  refine sq l 0 (fun k=>decide (1048576<k)) (fun i=>(i:Int)) (by omega) (fun i hi=> ?_) ?_
  ·simp(disch:=omega)only[d4,qfz,rs];rw[ah];cases decide (1048576<l.getD i 0)<;>rfl
  ·simp(disch:=omega)only[d4,rs]
 unfold dz j6 q76;rw[hL,ax,qe8,ax,qhk]
theorem jud(lf d:Rw)(hs:∀x∈d,x.length≤1000000)(hl:d.length<20000):tz lf d=some (.inr (q8z d)):=by
 have e1:kz d=_:=jk4 (by omega);have hp:=wo d;have hlen:(srt d).length=d.length:=hp.length_eq;have e2:qpd (srt d) (srt d) ((srt d).length:Int) 0=some (bif (srt d).any q76 then .inr ([],6)else .inl ()):=by
  refine na (srt d) [] q76 ([],6) (by omega) (fun i hi=> ?_) ?_
  ·have hb:=jyb ((srt d).getD i []) (hs _ (hp.mem_iff.1 (au [] hi)));simp(disch:=omega)only[wx,hb,rs];rw[ah];cases q76 ((srt d).getD i [])<;>rfl
  ·simp(disch:=omega)only[wx,rs]
 unfold tz qd7 q8z;rw[e1,ax,pz (decide_eq_true hlen),hlen,←hlen,e2,hlen];have e3:decide ((1000:Int)<(d.length:Int))=decide (1000<d.length):=decide_eq_decide.2 (by omega);rw[e3];cases decide (1000<d.length)<;>cases(srt d).any q76<;>rfl
def rh(n m:Nat)(A:Nat→Nat→Int):Rw:=bh n fun p=>bh m fun j=>A p j
theorem qb8(n m:Nat)(A:Nat→Nat→Int):(rh n m A).length=n:=cq _ _
theorem qws{n m:Nat}{A:Nat→Nat→Int}{i:Nat}(hi:i<n):(rh n m A).getD i []=bh m fun j=>A i j:=fq hi
theorem jrn{n i:Nat}:(List.replicate n (0:Int)).set i 1=qbx n i:=by
 rw[qfj,qr];rfl
theorem jl9(m:Nat):vi 0 m []=[]:=by
 induction m with
 |zero=>rfl
 |succ m ih=>
  unfold vi at ih⊢;rw[List.range_succ,List.foldl_append,ih];rfl
section
variable {n m : Nat} {A : Nat → Nat → Int} (hA : ∀ i j, -1 ≤ A i j ∧ A i j ≤ 1) (hn : n ≤ 14) (hm : m ≤ 14) (hs : m ≤ 12 ∨ n ≤ 12)
include hn hm in
theorem jto:qpb (rh n m A) (rh n m A) ((rh n m A).length:Int) (0,[],[])=some (.inl (lfE (qq n m A),td (qq n m A))):=by
 refine cn (fun i:Nat=>((i:Int),lfE (bh i fun p=>(bh m fun j=>A p j,qbx n p)),td (bh i fun p=>(bh m fun j=>A p j,qbx n p)))) n (bc (by omega)) _ (fun i hi=> ?_) ?_ _ rfl
 ·have hc:=vp (bh m fun j=>A i j) (by rw[cq];omega);rw[qkz,←q51,←q58];simp(disch:=omega)only[wu,qb8,qws hi,hc,qd8,jy,cq,List.length_replicate,jrn,rs];rw[ah]
 ·simp(disch:=omega)only[wu,qb8,rs];rfl
include hA hn hm hs in
theorem jtp:qpc (m:Int) (0,lfE (qq n m A),td (qq n m A))=some (.inl (lfE (vi n m (qq n m A)),td (vi n m (qq n m A)))):=by
 refine cn (fun c:Nat=>((c:Int),lfE (vi n c (qq n m A)),td (vi n c (qq n m A)))) m (bc (by omega)) _ (fun c hc=> ?_) ?_ _ rfl
 ·have hG:=qfv (qmp n m A) c (by omega);have h1:=js5 hA hG hc hn (by omega) (by omega);have e:vi n (c+1) (qq n m A)=qmu n c (vi n c (qq n m A)):=by
   unfold vi;rw[List.range_succ,List.foldl_append];rfl
  rw[e];simp(disch:=omega)only[wv,h1,Bool.not_true,rs];rw[ah]
 ·simp(disch:=omega)only[wv,rs]
theorem q35{L:List bz}{x:List Int}:x∈td L↔∃r∈L,r.2=x:=List.mem_map
include hA hn hm hs in
theorem q6c:yw (rh n m A)=some (q8z (td (vi n m (qq n m A)))):=by
 have hG:=qfv (qmp n m A) m (Nat.le_refl _);have hlen:=qu7 hG hn;have e3:tz (lfE (vi n m (qq n m A))) (td (vi n m (qq n m A)))=_:=jud _ _ (fun x hx=>by
  obtain⟨r,hr,rfl⟩:=q35.1 hx;have:=(hG.row r hr).len;omega) (by rw[jy];omega)
 have e0:=jto (A:=A) hn hm;have e1:=jtp hA hn hm hs;unfold yw;rw[e0,ax,lj];by_cases h0:0<n
 ·have h00:(rh n m A).getD 0 []=bh m fun j=>A 0 j:=qws h0
  simp(disch:=omega)only[qb8,h00,cq,e1,e3,rs]
 ·obtain rfl:n=0:=by omega
  have es:qq 0 m A=[]:=rfl;rw[es,jl9]at e3⊢;simp(disch:=omega)only[qb8,e3,rs]
end
def AP(n:bp)(p j:Nat):Int:=jb1 (n.2.1.getD j ae.z) (p:Int)
def AT(n:bp)(t p:Nat):Int:=jb1 (n.2.1.getD t ae.z) (p:Int)
section
variable {n : bp} (h : Small n) (hN : n.1 ≤ 40)
include h in
theorem j1z(p:Nat)(a b:Int)(n1 n2 n3:Int)(M:Rw):qrx (p:Int) a b n.2.1 (n.2.1.length:Int) n1 n.2.1 n2 n3 M (0,[])=some (.inl (bh n.2.1.length fun j=>AP n p j)):=by
 have hl:=h.trans;refine cn (fun i:Nat=>((i:Int),bh i fun j=>AP n p j)) n.2.1.length (bc (by omega)) _ (fun i hi=> ?_) ?_ _ rfl
 ·have ht:=au ae.z hi;have h1:=h.ins _ ht;have h2:=h.outs _ ht;have e:=q89 (n.2.1.getD i ae.z) (p:Int) (by omega) (by omega);rw[qkz];simp(disch:=omega)only[yq,e,cq,rs];rw[ah];rfl
 ·simp(disch:=omega)only[yq,rs]
include h in
theorem j10(N:Nat)(hN:N≤40)(n1 n2 n3:Int):qh1 (N:Int) n1 n.2.1 n2 n3 (0,[])=some (.inl (rh N n.2.1.length (AP n))):=by
 refine cn (fun i:Nat=>((i:Int),rh i n.2.1.length (AP n))) N (bc (by omega)) _ (fun i hi=> ?_) ?_ _ rfl
 ·have e:=j1z h i (N:Int) (i:Int) n1 n2 n3 (rh i n.2.1.length (AP n));have e2:rh (i+1) n.2.1.length (AP n)=rh i n.2.1.length (AP n)++[bh n.2.1.length fun j=>AP n i j]:=qkz _ _;rw[e2];simp(disch:=omega)only[yr,e,qb8,rs];rw[ah]
 ·simp(disch:=omega)only[yr,rs]
include h in
theorem j2f(t:Nat)(ht:t<n.2.1.length)(N:Nat)(hN:N≤40)(a b n1 n2 n3:Int)(v:List ae)(w:List ae)(M:Rw):qfw v a b (N:Int) n1 w n2 n3 M (n.2.1.getD t ae.z).1 (n.2.1.getD t ae.z).2.1 (n.2.1.getD t ae.z).2.2.1 (0,[])=some (.inl (bh N fun p=>AT n t p)):=by
 have hm:=au ae.z ht;have h1:=h.ins _ hm;have h2:=h.outs _ hm;refine cn (fun i:Nat=>((i:Int),bh i fun p=>AT n t p)) N (bc (by omega)) _ (fun i hi=> ?_) ?_ _ rfl
 ·have e:=q89 (n.2.1.getD t ae.z) (i:Int) (by omega) (by omega);have e' :xu ((n.2.1.getD t ae.z).1,(n.2.1.getD t ae.z).2.1,(n.2.1.getD t ae.z).2.2.1,()) (i:Int)=some (jb1 (n.2.1.getD t ae.z) (i:Int)):=e;rw[qkz];simp(disch:=omega)only[nm,e',cq,rs];rw[ah];rfl
 ·simp(disch:=omega)only[nm,rs]
include h in
theorem j2g(N:Nat)(hN:N≤40)(n2 n3:Int)(w:List ae):xf n.2.1 (n.2.1.length:Int) (N:Int) w n2 n3 (0,[])=some (.inl (rh n.2.1.length N (AT n))):=by
 have hl:=h.trans;refine cn (fun i:Nat=>((i:Int),rh i N (AT n))) n.2.1.length (bc (by omega)) _ (fun i hi=> ?_) ?_ _ rfl
 ·have e:=j2f h i hi N hN (n.2.1.length:Int) (i:Int) (N:Int) n2 n3 n.2.1 w (rh i N (AT n));have e2:rh (i+1) N (AT n)=rh i N (AT n)++[bh N fun p=>AT n i p]:=qkz _ _;rw[e2];simp(disch:=omega)only[np,e,qb8,rs];rw[ah]
 ·simp(disch:=omega)only[np,rs]
end
def plE(n:bp):List bz:=vi n.1.toNat n.2.1.length (qq n.1.toNat n.2.1.length (AP n))
def trE(n:bp):List bz:=vi n.2.1.length n.1.toNat (qq n.2.1.length n.1.toNat (AT n))
def vm(n:bp):Bool:=decide (20<n.1)||decide (20<n.2.1.length)
def ql9(n:bp):Rw×Int:=bif !ck n then([],1)else bif vm n then([],5)else q8z (td (plE n))
def qop(n:bp):Rw×Int:=bif !ck n then([],1)else bif vm n then([],5)else q8z (td (trE n))
def qt4(n:bp):Prop:=(n.1≤12∧n.2.1.length≤14)∨20<n.1∨20<n.2.1.length
theorem jfg(n:bp):qfy n=some (vm n):=by
 unfold qfy vm;have e:decide ((20:Int)<(n.2.1.length:Int))=decide (20<n.2.1.length):=decide_eq_decide.2 (by omega);rw[e];cases decide (20<n.1)<;>rfl
theorem u4{n:bp}(hv:ck n=true):1≤n.1∧n.1≤40∧n.2.1.length≤60:=by
 unfold ck at hv;simp only[Bool.and_eq_true,decide_eq_true_eq]at hv;omega
theorem qja{n:bp}(hf:qt4 n)(hl:vm n=false):n.1≤12∧n.2.1.length≤14:=by
 unfold vm at hl;simp only[Bool.or_eq_false_iff,decide_eq_false_iff_not]at hl;unfold qt4 at hf;omega
theorem jll{n:bp}(h:Small n)(hf:qt4 n):qhe n=some (ql9 n):=by
 unfold qhe ql9;rw[qfr h,jfg];cases hv:ck n with
 |false=>rfl
 |true=>
  cases hl:vm n with
  |true=>rfl
  |false=>
   obtain⟨v1,v2,v3⟩:=u4 hv;obtain⟨f1,f2⟩:=qja hf hl;have e:n.1=(n.1.toNat:Int):=by omega
   have e1:qh1 n.1 n.1 n.2.1 n.2.2.1 n.2.2.2.1 (0,[])=some (.inl (rh n.1.toNat n.2.1.length (AP n))):=by
    conv=>lhs;arg 1;rw[e]
    exact j10 h n.1.toNat (by omega) n.1 n.2.2.1 n.2.2.2.1
   have e2:=q6c (n:=n.1.toNat) (m:=n.2.1.length) (A:=AP n) (fun i j=>jb2 _ _) (by omega) (by omega) (by omega);simp only[ax,Bool.not_true,cond_false,e1,lj,e2];rfl
theorem q4e{n:bp}(h:Small n)(hf:qt4 n):uh n=some (qop n):=by
 unfold uh qop;rw[qfr h,jfg];cases hv:ck n with
 |false=>rfl
 |true=>
  cases hl:vm n with
  |true=>rfl
  |false=>
   obtain⟨v1,v2,v3⟩:=u4 hv;obtain⟨f1,f2⟩:=qja hf hl;have e:n.1=(n.1.toNat:Int):=by omega
   have e1:xf n.2.1 (n.2.1.length:Int) n.1 n.2.1 n.2.2.1 n.2.2.2.1 (0,[])=some (.inl (rh n.2.1.length n.1.toNat (AT n))):=by
    conv=>lhs;arg 3;rw[e]
    exact j2g h n.1.toNat (by omega) n.2.2.1 n.2.2.2.1 n.2.1
   have e2:=q6c (n:=n.2.1.length) (m:=n.1.toNat) (A:=AT n) (fun i j=>jb2 _ _) (by omega) (by omega) (by omega);simp only[ax,Bool.not_true,cond_false,e1,lj,e2];rfl
end Go.Proofs.YtclbndfjhjladaaGreat
