/-
  Flow: the reference's invariants; FlowInvariants.
-/
import Derived.Test.YtclbndfjhjladaaGreatZ4F7
set_option linter.all false
namespace Go.Proofs.YtclbndfjhjladaaGreat
open Go.K Go.M
def LeL(a b:List Int):Prop:=vb b a=false
theorem jus{a b c:List Int}(h1:LeL a b)(h2:LeL b c):LeL a c:=qzt.ntrans _ _ _ h2 h1
theorem jcc{out:Rw}{x:List Int}{e:Nat}(hs:out.Pairwise LeL)(h1:e≤out.length)(h2:∀j,j<e→vb (out.getD j []) x=true)(h3:e=out.length∨vb (out.getD e []) x=false):((out.take e++[x])++out.drop e).Pairwise LeL:=by
 have ht:∀y∈out.take e,LeL y x:=by
  intro y hy;obtain⟨j,hj,rfl⟩:=tj [] hy;rw[List.length_take]at hj;have e1:(out.take e).getD j []=out.getD j []:=by
   rw[List.getD_eq_getElem?_getD,List.getElem?_take,if_pos (by omega),←List.getD_eq_getElem?_getD]
  rw[e1];have:=h2 j (by omega);cases hc:vb x (out.getD j [])with
  |false=>exact hc
  |true=>
   have:=qgt _ _ _ hc this;rw[qzs]at this;cases this
 have hd:∀y∈out.drop e,LeL x y:=by
  intro y hy;obtain⟨j,hj,rfl⟩:=tj [] hy;rw[List.length_drop]at hj;have e1:(out.drop e).getD j []=out.getD (e+j) []:=by
   rw[List.getD_eq_getElem?_getD,List.getElem?_drop,←List.getD_eq_getElem?_getD]
  rw[e1];rcases h3 with h3|h3
  ·omega
  ·rcases Nat.eq_zero_or_pos j with h0|h0
   ·rw[h0];exact h3
   ·have:=(List.pairwise_iff_getElem.1 hs) e (e+j) (by omega) (by omega) (by omega);rw[←sm out e [] (by omega),←sm out (e+j) [] (by omega)]at this;exact jus (b:=out.getD e []) h3 this
 have hall:=hs;rw[←List.take_append_drop e out,List.pairwise_append]at hall;rw[List.append_assoc,List.pairwise_append,List.singleton_append,List.pairwise_cons];refine⟨hall.1,⟨hd,hall.2.1⟩,fun y hy z hz=> ?_⟩;rcases List.mem_cons.1 hz with rfl|hz
 ·exact ht y hy
 ·exact hall.2.2 y hy z hz
theorem jng(out:Rw)(x:List Int)(e:Nat):((out.take e++[x])++out.drop e).Perm (out++[x]):=by
 rw[List.append_assoc,List.singleton_append];refine List.perm_middle.trans ?_;rw[List.take_append_drop];exact(List.perm_append_singleton x out).symm
theorem j00(a b:List Int)(hab:a.length=b.length)(ha:a.length≤1000000):qok a b=some (vb a b):=by
 have hloop:∃o,q1j a b 0=some o∧(match o with| .inl _=>false=vb a b| .inr r=>r=vb a b):=by
  refine da (fun(st:Int)=>∃i:Nat,i≤a.length∧st=(i:Int)∧vb (a.drop i) (b.drop i)=vb a b) (fun st=>((a.length:Int)-st).toNat) (fun(o:Unit⊕Bool)=>match o with| .inl _=>false=vb a b| .inr r=>r=vb a b) _ ⟨0,Nat.zero_le _,rfl,rfl⟩ (by show((a.length:Int)-0).toNat<many;unfold many;omega) ?_;rintro _ ⟨i,hi,rfl,he⟩;by_cases h:i<a.length
  ·have h2:i<b.length:=by omega
   rw[jnp a b i h h2]at he;by_cases heq:a.getD i 0=b.getD i 0
   ·rw[if_pos heq]at he;refine⟨.next (((i+1:Nat):Int)),?_,⟨i+1,by omega,rfl,he⟩,by show((a.length:Int)-((i+1:Nat):Int)).toNat<((a.length:Int)-(i:Int)).toNat;omega⟩;simp(disch:=omega)only[v8,rs];rw[ag]
   ·rw[if_neg heq]at he;refine⟨.ret (decide (a.getD i 0<b.getD i 0)),?_,he⟩;simp(disch:=omega)only[v8,rs]
  ·have e:i=a.length:=by omega
   subst e;refine⟨.done (),?_,?_⟩
   ·simp(disch:=omega)only[v8,rs]
   ·show false=vb a b;rw[←he,List.drop_length,hab,List.drop_length];rfl
 obtain⟨o,ho,hp⟩:=hloop;unfold qok;rw[ho];cases o with
 |inl u=>rw[←hp];rfl
 |inr r=>rw[←hp];rfl
def jro(n:Nat)(d:Rw):Prop:=∀x∈d,x.length=n
theorem j1m{n:Nat}(hn:n≤1000)(L:List br)(out:Rw)(k:Nat)(hk:k<L.length)(hx:(L.getD k ([],[])).2.length=n)(hl:out.length≤1000000)(ho:jro n out):
  ∃e:Nat,qhw (rsE L) out (k:Int) 0=some (.inl (e:Int))∧e≤out.length∧(∀j,j<e→vb (out.getD j []) (L.getD k ([],[])).2=true)∧(e=out.length∨vb (out.getD e []) (L.getD k ([],[])).2=false):=by
 have hloop:∃o,qhw (rsE L) out (k:Int) 0=some o∧∃e:Nat,o= .inl (e:Int)∧e≤out.length∧(∀j,j<e→vb (out.getD j []) (L.getD k ([],[])).2=true)∧(e=out.length∨vb (out.getD e []) (L.getD k ([],[])).2=false):=by
  refine da (fun(st:Int)=>∃i:Nat,i≤out.length∧st=(i:Int)∧∀j,j<i→vb (out.getD j []) (L.getD k ([],[])).2=true) (fun st=>((out.length:Int)-st).toNat) (fun(o:Int⊕(Rw×Int))=>∃e:Nat,o= .inl (e:Int)∧e≤out.length∧(∀j,j<e→vb (out.getD j []) (L.getD k ([],[])).2=true)∧(e=out.length∨vb (out.getD e []) (L.getD k ([],[])).2=false)) _ ⟨0,Nat.zero_le _,rfl,fun j h=>by omega⟩ (by show((out.length:Int)-0).toNat<many;unfold many;omega) ?_;rintro _ ⟨i,hi,rfl,hj⟩;by_cases h:i<out.length
  ·have hlen:=ho _ (ao [] h);have e1:=j00 (out.getD i []) (L.getD k ([],[])).2 (by omega) (by omega);cases hq:vb (out.getD i []) (L.getD k ([],[])).2 with
   |true=>
    rw[hq]at e1;refine⟨.next (((i+1:Nat):Int)),?_,⟨i+1,h,rfl,fun j hj' => ?_⟩,by show((out.length:Int)-((i+1:Nat):Int)).toNat<((out.length:Int)-(i:Int)).toNat;omega⟩
    ·simp(disch:=omega)only[qw,ir,qmb,jg0,e1,rs];rw[ag]
    ·by_cases hji:j=i
     ·rw[hji];exact hq
     ·exact hj j (by omega)
   |false=>
    rw[hq]at e1;refine⟨.done (i:Int),?_,i,rfl,hi,hj,Or.inr hq⟩;simp(disch:=omega)only[qw,ir,qmb,jg0,e1,rs]
  ·refine⟨.done (i:Int),?_,i,rfl,hi,hj,Or.inl (by omega)⟩;simp(disch:=omega)only[qw,rs]
 obtain⟨_,ho,e,rfl,h1,h2,h3⟩:=hloop;exact⟨e,ho,h1,h2,h3⟩
theorem j1f{n:Nat}(hn:n≤1000)(L:List br)(out:Rw)(k:Nat)(hk:k<L.length)(hx:(L.getD k ([],[])).2.length=n):qtj (rsE L) out (k:Int) 0=some (bif qm8 (L.getD k ([],[])).2 then .inr ([],6)else .inl ()):=by
 refine f7 (L.getD k ([],[])).2 0 (fun k=>decide (1048576<k)) ([],6) (by omega) (fun i hi=> ?_) ?_
 ·simp(disch:=omega)only[xe,ir,qmb,jg0,rs];rw[ag];cases decide (1048576<(L.getD k ([],[])).2.getD i 0)<;>rfl
 ·simp(disch:=omega)only[xe,ir,qmb,jg0,rs]
theorem q1y{n:Nat}(hn:n≤1000)(L:List br)(hL:∀r∈L,r.2.length=n)(hl:L.length≤100000):qan (rsE L)=some (jli (mn L)):=by
 have hlen:(mn L).length=L.length:=g8 L;have hp:=qa8 (mn L);unfold qan jli;by_cases h1000:1000<L.length
 ·rw[decide_eq_true (show 1000<(mn L).length by omega)];simp(disch:=omega)only[ir,rs]
 ·rw[decide_eq_false (show¬1000<(mn L).length by omega)];have hloop:∃o,qtk (rsE L) ([],0)=some o∧o=bif (mn L).any qm8 then .inr ([],6)else .inl (srt (mn L)):=by
   refine da (fun(st:Rw×Int)=>∃i:Nat,i≤L.length∧st.2=(i:Int)∧st.1.Perm (mn (L.take i))∧st.1.Pairwise LeL∧(mn (L.take i)).any qm8=false) (fun st=>((L.length:Int)-st.2).toNat) (fun(o:Rw⊕(Rw×Int))=>o=bif (mn L).any qm8 then .inr ([],6)else .inl (srt (mn L))) _ ⟨0,Nat.zero_le _,rfl,List.Perm.refl _,List.Pairwise.nil,rfl⟩ (by show((L.length:Int)-0).toNat<many;unfold many;omega) ?_;rintro⟨out,_⟩ ⟨i,hi,rfl,hpm,hs,hb⟩;have hpm:out.Perm (mn (L.take i)):=hpm;have hs:out.Pairwise LeL:=hs;by_cases h:i<L.length
   ·have hx:=hL _ (ao ([],[]) h);have e0:=j1f hn L out i h hx;have et:mn (L.take (i+1))=mn (L.take i)++[(L.getD i ([],[])).2]:=by
     rw[ct L i ([],[]) h];simp[mn]
    cases hbg:qm8 (L.getD i ([],[])).2 with
    |true=>
     rw[hbg]at e0;have hany:(mn L).any qm8=true:=List.any_eq_true.2 ⟨(L.getD i ([],[])).2,jaw.2 ⟨_,ao _ h,rfl⟩,hbg⟩;refine⟨.ret ([],6),?_,by rw[hany];rfl⟩;simp(disch:=omega)only[qx,ir,e0,qub,rs]
    |false=>
     rw[hbg]at e0;have hol:out.length=i:=by
      rw[hpm.length_eq,g8,List.length_take];omega
     have hosl:jro n out:=fun y hy=>by
      obtain⟨r,hr,rfl⟩:=jaw.1 (hpm.mem_iff.1 hy);exact hL r (List.mem_of_mem_take hr)
     obtain⟨e,e1,e2,e3,e4⟩:=j1m hn L out i h hx (by omega) hosl;refine⟨.next ((out.take e++[(L.getD i ([],[])).2])++out.drop e,((i+1:Nat):Int)),?_,⟨i+1,h,rfl,?_,jcc hs e2 e3 e4,?_⟩,by show((L.length:Int)-((i+1:Nat):Int)).toNat<((L.length:Int)-(i:Int)).toNat;omega⟩
     ·have t1:(out.take e).length≤i:=by rw[List.length_take];omega
      have t2:(out.drop e).length≤i:=by rw[List.length_drop];omega
      simp(disch:=omega)only[qx,ir,qmb,jg0,e0,qm7,e1,List.length_append,List.length_singleton,rs];rw[ag]
     ·show((out.take e++[(L.getD i ([],[])).2])++out.drop e).Perm (mn (L.take (i+1)));rw[et];exact(jng out _ e).trans (hpm.append_right _)
     ·show(mn (L.take (i+1))).any qm8=false;rw[et,List.any_append,hb,List.any_cons,hbg];rfl
   ·have e:i=L.length:=by omega
    subst e;rw[List.take_length]at hpm hb;refine⟨.done out,?_,?_⟩
    ·simp(disch:=omega)only[qx,ir,rs]
    ·rw[hb,jy6 hpm hs];rfl
  obtain⟨_,ho,rfl⟩:=hloop;have hab:(srt (mn L)).any qm8=(mn L).any qm8:=by
   rw[Bool.eq_iff_iff,List.any_eq_true,List.any_eq_true];exact⟨fun⟨x,hx,hb⟩=>⟨x,hp.mem_iff.1 hx,hb⟩,fun⟨x,hx,hb⟩=>⟨x,hp.mem_iff.2 hx,hb⟩⟩
  rw[hab,ho];simp(disch:=omega)only[ir,rs];cases(mn L).any qm8<;>rfl
theorem jou(N k:Nat)(hk:k<N)(hN:N≤1000):qhx (N:Int) (k:Int)=some (ru N k):=by
 unfold qhx;simp(disch:=omega)only[List.length_replicate,jo6,rs]
section
variable {n : ca} (h : Small n)
include h in
theorem j1k(p:Nat)(n1 n2 n3:Int)(l:List jzq)(x:List Int):qta (p:Int) n1 n.2.1 n2 n3 l x (0,[])=some (.inl (bh n.2.1.length fun j=>AP n p j)):=by
 have hl:=h.trans;refine a9 (fun i:Nat=>((i:Int),bh i fun j=>AP n p j)) n.2.1.length (aw (by omega)) _ (fun i hi=> ?_) ?_ _ rfl
 ·have ht:=ao af.z hi;have h1:=h.ins _ ht;have h2:=h.outs _ ht;have e:=j2a (n.2.1.getD i af.z) (p:Int) (by omega) (by omega);rw[mm];simp(disch:=omega)only[xc,e,bn,rs];rw[ag];rfl
 ·simp(disch:=omega)only[xc,rs]
include h in
theorem j1l(N:Nat)(hN:N≤40)(n2 n3:Int):qhr (N:Int) n.2.1 n2 n3 (0,[])=some (.inl (rsE (fc N n.2.1.length (AP n)))):=by
 refine a9 (fun i:Nat=>((i:Int),rsE (bh i fun p=>(bh n.2.1.length fun j=>AP n p j,ru N p)))) N (aw (by omega)) _ (fun i hi=> ?_) ?_ _ rfl
 ·have e:=j1k h i (N:Int) n2 n3 (rsE (bh i fun p=>(bh n.2.1.length fun j=>AP n p j,ru N p))) (ru N i);have e1:=jou N i hi (by omega);rw[mm,←jlj];simp(disch:=omega)only[xd,e,e1,ir,bn,rs];rw[ag];rfl
 ·simp(disch:=omega)only[xd,rs];rfl
include h in
theorem j1o(t:Nat)(ht:t<n.2.1.length)(N:Nat)(hN:N≤40)(n2 n3:Int)(l:List jzq)(x:List Int):qfx (t:Int) (N:Int) n.2.1 n2 n3 l x (0,[])=some (.inl (bh N fun p=>AT n t p)):=by
 have hm:=ao af.z ht;have h1:=h.ins _ hm;have h2:=h.outs _ hm;refine a9 (fun i:Nat=>((i:Int),bh i fun p=>AT n t p)) N (aw (by omega)) _ (fun i hi=> ?_) ?_ _ rfl
 ·have e:=j2a (n.2.1.getD t af.z) (i:Int) (by omega) (by omega);rw[mm];simp(disch:=omega)only[l7,e,bn,rs];rw[ag];rfl
 ·simp(disch:=omega)only[l7,rs]
include h in
theorem j1p(N:Nat)(hN:N≤40)(n2 n3:Int):vc (N:Int) n.2.1 n2 n3 (0,[])=some (.inl (rsE (fc n.2.1.length N (AT n)))):=by
 have hl:=h.trans;refine a9 (fun i:Nat=>((i:Int),rsE (bh i fun t=>(bh N fun p=>AT n t p,ru n.2.1.length t)))) n.2.1.length (aw (by omega)) _ (fun i hi=> ?_) ?_ _ rfl
 ·have e:=j1o h i hi N hN n2 n3 (rsE (bh i fun t=>(bh N fun p=>AT n t p,ru n.2.1.length t))) (ru n.2.1.length i);have e1:=jou n.2.1.length i hi (by omega);rw[mm,←jlj];simp(disch:=omega)only[l8,e,e1,ir,bn,rs];rw[ag];rfl
 ·simp(disch:=omega)only[l8,rs];rfl
end
theorem q66(n:ca):qej n=some (va n):=by
 unfold qej va;have e:decide ((20:Int)<(n.2.1.length:Int))=decide (20<n.2.1.length):=decide_eq_decide.2 (by omega);rw[e];cases decide (20<n.1)<;>rfl
theorem jn2{n:ca}(h:1≤n.1):GoodE n.1.toNat n.2.1.length n.2.1.length (AP n) (plE n):=qch (qh8 _ _ _) _ (Nat.le_refl _)
theorem jo2(n:ca):GoodE n.2.1.length n.1.toNat n.1.toNat (AT n) (trE n):=qch (qh8 _ _ _) _ (Nat.le_refl _)
theorem jlf{n:ca}(h:Small n)(hf:jiq n):qgk n=some (q8a n):=by
 unfold qgk q8a;rw[oq h,q66];cases hv:c6 n with
 |false=>rfl
 |true=>
  cases hl:va n with
  |true=>rfl
  |false=>
   obtain⟨v1,v2,v3⟩:=ur hv;obtain⟨f1,f2⟩:=qkv hf hl;have e:n.1=(n.1.toNat:Int):=by omega
   have e1:qhr n.1 n.2.1 n.2.2.1 n.2.2.2.1 (0,[])=some (.inl (rsE (fc n.1.toNat n.2.1.length (AP n)))):=by
    conv=>lhs;arg 1;rw[e]
    exact j1l h n.1.toNat (by omega) n.2.2.1 n.2.2.2.1
   have e2:=je9 (n:=n.1.toNat) (m:=n.2.1.length) (A:=AP n) (fun i j=>jat _ _) (by omega) (by omega) (by omega);have hG:=jn2 v1;have e3:=q1y (n:=n.1.toNat) (by omega) (plE n) (fun r hr=>(hG.row r hr).len) (by have:=zo hG (by omega);omega);have e2:i7 (n.2.1.length:Int) (rsE (fc n.1.toNat n.2.1.length (AP n)))=some (rsE (plE n),true,[]):=e2;simp only[au,Bool.not_true,cond_false,e1,mo,e2,e3]
theorem q1z{n:ca}(h:Small n)(hf:jiq n):su n=some (jdc n):=by
 unfold su jdc;rw[oq h,q66];cases hv:c6 n with
 |false=>rfl
 |true=>
  cases hl:va n with
  |true=>rfl
  |false=>
   obtain⟨v1,v2,v3⟩:=ur hv;obtain⟨f1,f2⟩:=qkv hf hl;have e:n.1=(n.1.toNat:Int):=by omega
   have e1:vc n.1 n.2.1 n.2.2.1 n.2.2.2.1 (0,[])=some (.inl (rsE (fc n.2.1.length n.1.toNat (AT n)))):=by
    conv=>lhs;arg 1;rw[e]
    exact j1p h n.1.toNat (by omega) n.2.2.1 n.2.2.2.1
   have e2:i7 (n.1.toNat:Int) (rsE (fc n.2.1.length n.1.toNat (AT n)))=some (rsE (trE n),true,[]):=je9 (n:=n.2.1.length) (m:=n.1.toNat) (A:=AT n) (fun i j=>jat _ _) (by omega) (by omega) (by omega);rw[←e]at e2;have hG:=jo2 n;have e3:=q1y (n:=n.2.1.length) (by omega) (trE n) (fun r hr=>(hG.row r hr).len) (by have:=zo hG (by omega);omega);simp only[au,Bool.not_true,cond_false,e1,mo,e2,e3]
structure OutOK (n : Nat) (r : Rw × Int) : Prop where
 len : r.1.length ≤ 1000
 row : ∀ x ∈ r.1, x.length = n ∧ ∀ i, 0 ≤ x.getD i 0 ∧ x.getD i 0 ≤ 1048576
 err : r.2 ≠ 0 → r.1 = []
theorem jsw{n m c:Nat}{A:Nat→Nat→Int}{L:List br}(hG:GoodE n m c A L):OutOK n (jli (mn L)):=by
 unfold jli;cases h1:decide (1000<(mn L).length)with
 |true=>exact⟨Nat.zero_le _,fun x hx=>by simp at hx,fun _=>rfl⟩
 |false=>
  have hl:=of_decide_eq_false h1;have hp:=qa8 (mn L);cases h2:(srt (mn L)).any qm8 with
  |true=>exact⟨Nat.zero_le _,fun x hx=>by simp at hx,fun _=>rfl⟩
  |false=>
   refine⟨by show(srt (mn L)).length≤1000;rw[hp.length_eq];omega,fun x hx=> ?_,fun h=>absurd rfl h⟩;have hx:x∈srt (mn L):=hx;obtain⟨r,hr,rfl⟩:=jaw.1 (hp.mem_iff.1 hx);have ho:=hG.row r hr;refine⟨ho.len,fun i=> ?_⟩;by_cases hi:i<r.2.length
   ·refine⟨ho.sol.1 i (by rw[←ho.len];exact hi),?_⟩;have:=List.any_eq_false.1 h2 r.2 hx;unfold qm8 at this;rw[Bool.not_eq_true,List.any_eq_false]at this;have:=this _ (ao 0 hi);simpa using this
   ·rw[List.getD_eq_getElem?_getD,List.getElem?_eq_none (by omega)];exact⟨Int.le_refl _,by show(0:Int)≤1048576;omega⟩
theorem j1c{n:ca}:OutOK n.1.toNat (q8a n):=by
 unfold q8a;cases hv:c6 n with
 |false=>exact⟨Nat.zero_le _,fun x hx=>by simp at hx,fun _=>rfl⟩
 |true=>
  cases va n with
  |true=>exact⟨Nat.zero_le _,fun x hx=>by simp at hx,fun _=>rfl⟩
  |false=>exact jsw (jn2 (ur hv).1)
theorem j1d{n:ca}:OutOK n.2.1.length (jdc n):=by
 unfold jdc;cases hv:c6 n with
 |false=>exact⟨Nat.zero_le _,fun x hx=>by simp at hx,fun _=>rfl⟩
 |true=>
  cases va n with
  |true=>exact⟨Nat.zero_le _,fun x hx=>by simp at hx,fun _=>rfl⟩
  |false=>exact jsw (jo2 n)
end Go.Proofs.YtclbndfjhjladaaGreat
