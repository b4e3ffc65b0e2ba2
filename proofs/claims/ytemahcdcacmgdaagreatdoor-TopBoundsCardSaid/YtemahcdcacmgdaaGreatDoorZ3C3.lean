/-
  Coverability: what holds of the tree while it grows; the way up from a node.
-/
import Derived.Test.YtemahcdcacmgdaaGreatDoorZ3C2
set_option linter.all false
namespace Go.Proofs.YtemahcdcacmgdaaGreatDoor
open Go.K Go.M
theorem j0r{a b:List Int}(h:a.length=b.length)(he:∀i,i<a.length→a.getD i 0=b.getD i 0):a=b:=by
 rw[qs1 a 0,qs1 b 0,h];exact f5 fun v hv=>he v (by omega)
theorem qcj{n:b8}(h:Small n)(hv:dp n=true){m:List Int}(hm:ch n.1 m=true){t:Nat}(ht:t<n.2.1.length)(hc:ge (li n t) m=true):k6 (li n t) m=cj (li n t) m:=by
 have F:=qrd h hv hm ht;refine j0r ((qte _ _).trans F.len.symm) fun q hq=> ?_
 rw[qte]at hq;have:=F.mb q hq;rw[qx4 (jot h hv ht) (ExB.of hm) hc,F.at_,if_neg (by omega)]
def dl(T:ah)(q:Nat):Int:=(if(q:Int)∈T.2.1 then-1 else 0)+(if(q:Int)∈T.2.2.1 then 1 else 0)
def q0m(n:b8)(Y:Nat→Int):Prop:=(∀q,0≤Y q)∧∀t,t<n.2.1.length→au (fun q=>Y q*dl (li n t) q) n.1.toNat=0
def OmS(n:b8)(m:List Int)(Y:Nat→Int)(s:List Int):Prop:=(∀q,q<n.1.toNat→s.getD q 0= -1→Y q=0)∧au (fun q=>Y q*s.getD q 0) n.1.toNat=au (fun q=>Y q*m.getD q 0) n.1.toNat
theorem q62{f:Nat→Int}:∀{n:Nat},(∀k,k<n→0≤f k)→0≤au f n
 |0,_=>Int.le_refl _
 |n+1,h=>by
  have:=q62 (n:=n) fun k hk=>h k (by omega)
  have:=h n (by omega);show 0≤au f n+f n;omega
theorem juz{f:Nat→Int}:∀{n:Nat},(∀k,k<n→0≤f k)→au f n=0→∀k,k<n→f k=0
 |0,_,_,k,hk=>absurd hk (Nat.not_lt_zero k)
 |n+1,h,h0,k,hk=>by
  have h1:=q62 (n:=n) fun k hk=>h k (by omega)
  have h2:=h n (by omega);have h0:au f n+f n=0:=h0;by_cases e:k=n
  ·subst e;omega
  ·exact juz (n:=n) (fun k hk=>h k (by omega)) (by omega) k (by omega)
theorem jwx{n:b8}(h:Small n)(hv:dp n=true){m s:List Int}(hs:ExB n.1 s){t:Nat}(ht:t<n.2.1.length)(hc:ge (li n t) s=true){Y:Nat→Int}(hY:q0m n Y)(ho:OmS n m Y s):OmS n m Y (k6 (li n t) s):=by
 have hl:=hs.1;have F:=jot h hv ht;refine⟨fun q hq h1=>ho.1 q hq ((jh4 F hs hc q (by omega)).2.2.1 h1),?_⟩;have e:au (fun q=>Y q*(k6 (li n t) s).getD q 0) n.1.toNat=au (fun q=>Y q*s.getD q 0+Y q*dl (li n t) q) n.1.toNat:=bu fun q hq=>by
  rw[qx4 F hs hc,←Int.mul_add];by_cases h1:s.getD q 0= -1
  ·rw[ho.1 q hq h1];omega
  ·rw[if_neg h1];unfold dl;rw[Int.add_assoc]
 rw[e,qew,hY.2 t ht,ho.2];omega
theorem jee{z y:List Int}{q:Nat}(hq:q<y.length):(q4w z y).getD q 0=if z.getD q 0=y.getD q 0 then y.getD q 0 else-1:=wa hq
theorem jmk(z y:List Int):(q4w z y).length=y.length:=om _ _
theorem j24{n:b8}{m z y:List Int}(hz:(z.length:Int)=n.1)(hy:(y.length:Int)=n.1)(hb:qtv z y=true){Y:Nat→Int}(hY:q0m n Y)(hoz:OmS n m Y z)(hoy:OmS n m Y y):OmS n m Y (q4w z y):=by
 have hb:=q69.1 hb;have hsub:au (fun q=>Y q*(y.getD q 0-z.getD q 0)) n.1.toNat=0:=by
  have:au (fun q=>Y q*y.getD q 0) n.1.toNat=au (fun q=>Y q*(y.getD q 0-z.getD q 0)+Y q*z.getD q 0) n.1.toNat:=bu fun q _=>by rw[←Int.mul_add];congr 1;omega
  rw[qew]at this;have:=hoz.2;have:=hoy.2;omega
 have hnn:∀q,q<n.1.toNat→0≤Y q*(y.getD q 0-z.getD q 0):=fun q hq=>by
  by_cases h1:y.getD q 0= -1
  ·rw[hoy.1 q hq h1];omega
  ·have:=(hb q (by omega)).resolve_left h1;exact Int.mul_nonneg (hY.1 q) (by omega)
 have h0:=juz hnn hsub;have hk:∀q,q<n.1.toNat→z.getD q 0≠y.getD q 0→Y q=0:=fun q hq hne=>by
  by_cases h1:y.getD q 0= -1
  ·exact hoy.1 q hq h1
  ·rcases Int.mul_eq_zero.1 (h0 q hq)with h2|h2
   ·exact h2
   ·omega
 refine⟨fun q hq h1=> ?_,?_⟩
 ·rw[jee (by omega)]at h1;by_cases h2:z.getD q 0=y.getD q 0
  ·rw[if_pos h2]at h1;exact hoy.1 q hq h1
  ·exact hk q hq h2
 ·rw[←hoy.2];refine bu fun q hq=> ?_
  rw[jee (by omega)];by_cases h2:z.getD q 0=y.getD q 0
  ·rw[if_pos h2]
  ·rw[hk q hq h2];omega
abbrev plN(ns:List ae)(j:Nat):List Int:=(ns.getD j ae.z).1
abbrev ng(ns:List ae)(j:Nat):List Int:=(ns.getD j ae.z).2.1
abbrev abN(ns:List ae)(j:Nat):Int:=(ns.getD j ae.z).2.2.1
abbrev trN(ns:List ae)(j:Nat):Int:=(ns.getD j ae.z).2.2.2.1
abbrev grN(ns:List ae)(j:Nat):Int:=(ns.getD j ae.z).2.2.2.2.2.1
abbrev nwN(ns:List ae)(j:Nat):Bool:=(ns.getD j ae.z).2.2.2.2.2.2.1
abbrev omN(ns:List ae)(j:Nat):Bool:=(ns.getD j ae.z).2.2.2.2.2.2.2.1
inductive Anc (ns : List ae) (b : Nat) : Nat → Prop
 | refl : Anc ns b b
 | up {a c : Nat} : abN ns a = (c : Int) → Anc ns b c → Anc ns b a
theorem Anc.top{ns:List ae}{k c a:Nat}(h:Anc ns k a)(hc:abN ns k=(c:Int)):Anc ns c a:=by
 induction h with
 |refl=>exact .up hc .refl
 |up h1 _ ih=>exact .up h1 ih
def jzz(n:b8)(ns:List ae)(j:Nat):Prop:=
 ∃a t:Nat,a<j∧(t<n.2.1.length∧nwN ns a=true)∧abN ns j=(a:Int)∧trN ns j=(t:Int)∧ge (li n t) (ng ns a)=true∧plN ns j=k6 (li n t) (ng ns a)∧jer (plN ns j)=false∧
  (∀q,q<n.1.toNat→(ng ns j).getD q 0= -1∨(ng ns j).getD q 0=(plN ns j).getD q 0)∧(omN ns j=false→ng ns j=plN ns j)∧
  (omN ns j=true→∃g:Nat,grN ns j=(g:Int)∧g<j∧Anc ns g a∧qtv (ng ns g) (plN ns j)=true∧ng ns g≠plN ns j)
structure FullS (n : b8) (m : List Int) (S : List (List Int)) : Prop where
 len : S.length ≤ 60
 fst : m ∈ S
 ok : ∀ s ∈ S, ch n.1 s = true
 cl : ∀ s ∈ S, ∀ t, t < n.2.1.length → ge (li n t) s = true → cj (li n t) s ∈ S
def cN(ns:List ae)(i:Nat):Nat:=((List.range i).filter fun j=>nwN ns j).length
structure CI (n : b8) (m : List Int) (i d : Nat) (ns : List ae) (st : List (List Int)) : Prop where
 nl : ns.length ≤ 20001
 n0 : 0 < ns.length
 root : ng ns 0 = m ∧ plN ns 0 = m ∧ abN ns 0 = -1 ∧ omN ns 0 = false ∧ nwN ns 0 = true
 node : ∀ j, 0 < j → j < ns.length → jzz n ns j
 sx : ∀ s ∈ st, ExB n.1 s
 sn : st.Nodup
 sl : st.length ≤ 300
 mks : ∀ j, j < ns.length → ng ns j ∈ st
 new : ∀ s ∈ st, ∃ j, j < ns.length ∧ nwN ns j = true ∧ ng ns j = s
 cls : ∀ j t, j < ns.length → nwN ns j = true → (j < i ∨ j = i ∧ t < d) → t < n.2.1.length → ge (li n t) (ng ns j) = true → ∃ k, 0 < k ∧ k < ns.length ∧ abN ns k = (j : Int) ∧ trN ns k = (t : Int)
 inv : ∀ Y, q0m n Y → ∀ s ∈ st, OmS n m Y s
 cw : cN ns ns.length = st.length
 cb : ns.length ≤ 1 + n.2.1.length * cN ns i + d
 fl : ∀ S, FullS n m S → (∀ j, j < ns.length → omN ns j = false) ∧ ∀ s ∈ st, s ∈ S
section
variable {n : b8} {m : List Int} {i d : Nat} {ns : List ae} {st : List (List Int)} (h : CI n m i d ns st)
include h
theorem CI.ab(j:Nat)(hj:j<ns.length): -1≤abN ns j∧abN ns j<(j:Int):=by
 by_cases h0:j=0
 ·subst h0;rw[h.root.2.2.1];omega
 ·obtain⟨a,t,h1,_,h2,_⟩:=h.node j (by omega) hj;rw[h2];omega
theorem CI.mx(j:Nat)(hj:j<ns.length):ExB n.1 (ng ns j):=h.sx _ (h.mks j hj)
theorem j6l(hi:i<ns.length){p:List Int}(hp:ExB n.1 p)(hN:n.1≤40)(v:List ah)(v1 v2 n1:Int)(n2:List ah)(n3 n4 c y2 y3 y4:Int)(y6:Bool)(at0:List (ByteArray×Int)):
  ∃g o mk,qxo (i:Int) v v1 v2 n1 n2 n3 n4 c p y2 y3 y4 y6 at0 ns st ((i:Int),-1,false,p)=some (.inl (g,o,mk))∧ExB n.1 mk∧(∀q,q<n.1.toNat→mk.getD q 0= -1∨mk.getD q 0=p.getD q 0)∧(o=false→mk=p)∧
   (o=true→∃b:Nat,g=(b:Int)∧b≤i∧Anc ns b i∧qtv (ng ns b) p=true∧ng ns b≠p)∧∀Y,q0m n Y→OmS n m Y p→OmS n m Y mk:=by
 have hpl:=hp.1;have key:=qg3 (fun s:Int×Int×Bool×List Int=> -1≤s.1∧s.1≤(i:Int)∧(0≤s.1→Anc ns s.1.toNat i)∧ExB n.1 s.2.2.2∧(∀q,q<n.1.toNat→s.2.2.2.getD q 0= -1∨s.2.2.2.getD q 0=p.getD q 0)∧(s.2.2.1=false→s.2.2.2=p∧s.2.1= -1)∧
   (s.2.2.1=true→∃b:Nat,s.2.1=(b:Int)∧b≤i∧Anc ns b i∧qtv (ng ns b) p=true∧ng ns b≠p)∧∀Y,q0m n Y→OmS n m Y p→OmS n m Y s.2.2.2)
  (fun s=>(s.1+1).toNat) (fun o:(Int×Bool×List Int)⊕((Int×(List ae)×(List (List Int)))⊕Int)=>∃g oo mk,o= .inl (g,oo,mk)∧ExB n.1 mk∧(∀q,q<n.1.toNat→mk.getD q 0= -1∨mk.getD q 0=p.getD q 0)∧(oo=false→mk=p)∧
   (oo=true→∃b:Nat,g=(b:Int)∧b≤i∧Anc ns b i∧qtv (ng ns b) p=true∧ng ns b≠p)∧∀Y,q0m n Y→OmS n m Y p→OmS n m Y mk)
  (step:=fun a=>j4 (i:Int) v v1 v2 n1 n2 n3 n4 c p y2 y3 y4 y6 at0 ns st a.1 a.2.1 a.2.2.1 a.2.2.2 (fun a' =>some (.next a')) (fun e=>some (.done e)) (fun r=>some (.ret r))) ((i:Int),-1,false,p)
  ⟨by show(-1:Int)≤(i:Int);omega,Int.le_refl _,fun _=>by show Anc ns (i:Int).toNat i;rw[Int.toNat_natCast];exact .refl,hp,fun q _=> .inr rfl,fun _=>⟨rfl,rfl⟩,(fun hh=>by cases hh),fun Y _ h0=>h0⟩
  (by show((i:Int)+1).toNat<many;have:=h.nl;exact bw (by omega)) ?_
 ·obtain⟨o,ho,g,oo,mk,rfl,h1,h2,h3,h4,h5⟩:=key;exact⟨g,oo,mk,ho,h1,h2,h3,h4,h5⟩
 rintro⟨a,g,o,y⟩ ⟨a1,a2,a3,b1,b2,b3,b4,b5⟩;simp only at a1 a2 a3 b1 b2 b3 b4 b5;by_cases ha:a<0
 ·exact⟨.done (g,o,y),by simp(disch:=omega)only[j4,rs],g,o,y,rfl,b1,b2,fun ho=>(b3 ho).1,b4,b5⟩
 ·obtain⟨k,rfl⟩:=Int.eq_ofNat_of_zero_le (show 0≤a by omega);have hk:k<ns.length:=by omega
  have hanc:Anc ns k i:=by have:=a3 (by omega);rwa[Int.toNat_natCast]at this
  obtain⟨c1,c2⟩:=h.ab k hk;have hz:=h.mx k hk;have hzl:=hz.1;have hyl:=b1.1;have hbel:=jhl (x:=ng ns k) (y:=y) (by omega) (by omega);have hab:∀g' o' y',(ExB n.1 y' ∧(∀q,q<n.1.toNat→y'.getD q 0= -1∨y'.getD q 0=p.getD q 0)∧(o' =false→y' =p∧g' = -1)∧(o' =true→∃b:Nat,g' =(b:Int)∧b≤i∧Anc ns b i∧qtv (ng ns b) p=true∧ng ns b≠p)∧∀Y,q0m n Y→OmS n m Y p→OmS n m Y y')→(-1≤abN ns k∧abN ns k≤(i:Int)∧(0≤abN ns k→Anc ns (abN ns k).toNat i)∧ExB n.1 y' ∧(∀q,q<n.1.toNat→y'.getD q 0= -1∨y'.getD q 0=p.getD q 0)∧(o' =false→y' =p∧g' = -1)∧(o' =true→∃b:Nat,g' =(b:Int)∧b≤i∧Anc ns b i∧qtv (ng ns b) p=true∧ng ns b≠p)∧∀Y,q0m n Y→OmS n m Y p→OmS n m Y y')∧(abN ns k+1).toNat<((k:Int)+1).toNat:=fun g' o' y' hh=>
   ⟨⟨c1,by omega,fun h0=>hanc.top (by omega),hh⟩,by omega⟩
  cases hB:qtv (ng ns k) y with
  |false=>
   rw[hB]at hbel;exact⟨.next (abN ns k,g,o,y),by simp(disch:=omega)only[j4,hbel,rs],hab g o y ⟨b1,b2,b3,b4,b5⟩⟩
  |true=>
   rw[hB]at hbel;have heq:=jrg (ng ns k) y (by omega);by_cases he:ng ns k=y
   ·rw[decide_eq_true he]at heq;exact⟨.next (abN ns k,g,o,y),by simp(disch:=omega)only[j4,hbel,heq,rs],hab g o y ⟨b1,b2,b3,b4,b5⟩⟩
   ·rw[decide_eq_false he]at heq;have hacc:=fun{x1 x2 x3 x4 x5 x6 x7 x8 x9 x10 x11 x12 x13 x14 x15 x16 x17 x18 x19}=>jz0 (z:=ng ns k) (y:=y) (i:=x1) (a:=x2) (v:=x3) (v1:=x4) (v2:=x5) (n1:=x6) (n2:=x7) (n3:=x8) (n4:=x9) (c:=x10) (y0:=x11) (y2:=x12) (y3:=x13) (y4:=x14) (y5:=x15) (y6:=x16) (y7:=x17) (at0:=x18) (ns:=ns) (st:=x19) (by omega) (by omega)
    have hrest:ExB n.1 (q4w (ng ns k) y)∧(∀q,q<n.1.toNat→(q4w (ng ns k) y).getD q 0= -1∨(q4w (ng ns k) y).getD q 0=p.getD q 0)∧∀Y,q0m n Y→OmS n m Y p→OmS n m Y (q4w (ng ns k) y):=by
     refine⟨⟨by rw[jmk];exact hyl,fun q hq=> ?_⟩,fun q hq=> ?_,fun Y hY h0=>j24 hzl hyl hB hY (h.inv Y hY _ (h.mks k hk)) (b5 Y hY h0)⟩
     ·rw[jmk]at hq;rw[jee hq];have:=b1.2 q hq;split<;>omega
     ·rw[jee (by omega)];split
      ·exact b2 q hq
      ·exact .inl rfl
    by_cases hg:g<0
    ·have ho:o=false:=by
      cases o with
      |false=>rfl
      |true=>obtain⟨b,hb,_⟩:=b4 rfl;omega
     obtain⟨rfl,_⟩:=b3 ho;exact⟨.next (abN ns k,(k:Int),true,q4w (ng ns k) y),by simp(disch:=omega)only[j4,hbel,heq,hacc,rs],hab _ _ _ ⟨hrest.1,hrest.2.1,(fun hh=>by cases hh),fun _=>⟨k,rfl,by omega,hanc,hB,he⟩,hrest.2.2⟩⟩
    ·have ho:o=true:=by
      cases o with
      |true=>rfl
      |false=>have:=(b3 rfl).2;omega
     exact⟨.next (abN ns k,g,true,q4w (ng ns k) y),by simp(disch:=omega)only[j4,hbel,heq,hacc,rs],hab _ _ _ ⟨hrest.1,hrest.2.1,(fun hh=>by cases hh),fun _=>b4 ho,hrest.2.2⟩⟩
end
end Go.Proofs.YtemahcdcacmgdaaGreatDoor
