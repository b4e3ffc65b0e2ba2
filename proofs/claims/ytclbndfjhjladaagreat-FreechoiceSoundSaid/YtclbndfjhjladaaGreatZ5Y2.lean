/-
  Freechoice: the clusters of the closure of a workflow net.
-/
import Derived.Test.YtclbndfjhjladaaGreatZ5Y1
set_option linter.all false
namespace Go.Proofs.YtclbndfjhjladaaGreat
open Go.K Go.M
theorem jad(c:Nat→Nat)(i:Nat):(dv c i).Pairwise (·<·):=List.Pairwise.filter _ List.pairwise_lt_range
def cix(c:Nat→Nat)(z:Nat):Nat:=(dv c (c z)).length
theorem joo{c:Nat→Nat}(hc:Rep c){z M:Nat}(hz:z<M):cix c z<(dv c M).length:=by
 have:=hc.le z;obtain⟨B,e,_⟩:=ya (hc.idem z) (i:=M) (by omega);rw[e,List.length_append,List.length_cons];unfold cix;omega
theorem jsl{c:Nat→Nat}(hc:Rep c){z y:Nat}(h:cix c z=cix c y):c z=c y:=by
 unfold cix at h;rcases Nat.lt_trichotomy (c z) (c y)with hlt|e|hlt
 ·obtain⟨B,e,_⟩:=ya (hc.idem z) hlt;rw[e,List.length_append,List.length_cons]at h;omega
 ·exact e
 ·obtain⟨B,e,_⟩:=ya (hc.idem y) hlt;rw[e,List.length_append,List.length_cons]at h;omega
theorem jsm{c:Nat→Nat}{M j:Nat}(hj:j<(dv c M).length):∃r,r<M∧c r=r∧cix c r=j:=by
 obtain⟨h1,h2⟩:=q0e.1 (List.getElem_mem hj);refine⟨_,h1,h2,?_⟩;obtain⟨B,e,_⟩:=ya h2 h1;have hl:(dv c ((dv c M)[j])).length<(dv c M).length:=by
  have:=congrArg List.length e;rw[List.length_append,List.length_cons]at this;omega
 have hat:(dv c M)[(dv c ((dv c M)[j])).length]=(dv c M)[j]:=by
  have:(dv c M)[(dv c ((dv c M)[j])).length]? =some ((dv c M)[j]):=by
   generalize(dv c M)[j]=r at e;rw[e,List.getElem?_append_right (Nat.le_refl _),Nat.sub_self];rfl
  rw[List.getElem?_eq_getElem hl]at this;exact Option.some.inj this
 unfold cix;rw[h2];rcases Nat.lt_trichotomy (dv c ((dv c M)[j])).length j with hlt|e' |hlt
 ·have:=List.pairwise_iff_getElem.1 (jad c M) _ _ hl hj hlt;omega
 ·exact e'
 ·have:=List.pairwise_iff_getElem.1 (jad c M) _ _ hj hl hlt;omega
theorem jbl{M:Nat}{out:Bool}{ts:List ae}{e:Nat×Nat}:e∈edA M out ts ts.length↔∃t x,t<ts.length∧x∈jmq out (ts.getD t ae.z)∧e=(x.toNat,M+t):=by
 unfold edA edT;simp only[List.mem_flatMap,List.mem_range,List.mem_map];constructor
 ·rintro⟨t,ht,x,hx,rfl⟩;exact⟨t,x,ht,hx,rfl⟩
 ·rintro⟨t,x,ht,hx,rfl⟩;exact⟨t,ht,x,hx,rfl⟩
structure Wn (n : bp) : Prop where
 sm : Small n
 ok : ck n = true
 wf : WF n.1.toNat n.2.1 n.2.2.1 n.2.2.2.1
 fr : qm1 n.2.1 = true
 lt : n.2.1.length < 60
section
variable {n : bp} (W : Wn n)
include W
theorem Wn.cfr:qm1 (am n).2.1=true:=jg8 W.fr fun t ht=>(W.wf.2.1 t ht).2
theorem Wn.csm:Small (am n):=ja5 W.sm W.lt
theorem Wn.cok:ck (am n)=true:=jeb W.ok W.lt
theorem Wn.src:0≤n.2.2.1∧n.2.2.1<n.1∧0≤n.2.2.2.1∧n.2.2.2.1<n.1:=by
 obtain⟨_,_,_,h1,h2,_⟩:=qcs W.ok W.sm;exact⟨h1.1,h1.2,h2.1,h2.2⟩
theorem Wn.clen:(am n).2.1.length=n.2.1.length+1:=List.length_append
theorem Wn.old{t:Nat}(ht:t<n.2.1.length):(am n).2.1.getD t ae.z=n.2.1.getD t ae.z:=by
 show(n.2.1++[xe n]).getD t ae.z=_;rw[List.getD_eq_getElem?_getD,List.getD_eq_getElem?_getD,List.getElem?_append_left ht]
theorem Wn.new:(am n).2.1.getD n.2.1.length ae.z=xe n:=by
 show(n.2.1++[xe n]).getD n.2.1.length ae.z=_;rw[List.getD_eq_getElem?_getD,List.getElem?_append_right (Nat.le_refl _),Nat.sub_self];rfl
theorem Wn.cin{t:Nat}(ht:t<(am n).2.1.length):(∃x,x∈((am n).2.1.getD t ae.z).2.1)∧(∀x∈((am n).2.1.getD t ae.z).2.1,0≤x∧x<n.1)∧∀x∈((am n).2.1.getD t ae.z).2.2.1,0≤x∧x<n.1:=by
 obtain⟨p1,_,_,_,_,hB⟩:=qcs W.cok W.csm;have hm:=au ae.z ht;obtain⟨_,h2,h3⟩:=hB _ hm;have e:(((am n).1.toNat:Nat):Int)=n.1:=Int.toNat_of_nonneg (show 0≤n.1 by have:1≤n.1:=p1;omega);rw[e]at h2 h3;refine⟨?_,h2,h3⟩;rw[W.clen]at ht;by_cases hlt:t<n.2.1.length
 ·rw[W.old hlt];obtain⟨x,hx,_⟩:=(W.wf.2.2.2 _ (au ae.z hlt)).1;exact⟨x,hx⟩
 ·rw[show t=n.2.1.length by omega,W.new];exact⟨_,List.mem_singleton.2 rfl⟩
theorem Wn.same{t u:Nat}(ht:t<(am n).2.1.length)(hu:u<(am n).2.1.length){x:Int}(h1:x∈((am n).2.1.getD t ae.z).2.1)(h2:x∈((am n).2.1.getD u ae.z).2.1):
  ((am n).2.1.getD t ae.z).2.1=((am n).2.1.getD u ae.z).2.1:=by
 have hf:=W.cfr;unfold qm1 at hf;simp only[List.all_eq_true,List.mem_range]at hf;have key:∀a b:List Int,x∈a→x∈b→frB a b=true→a=b:=fun a b ha hb h=>by
  unfold frB jow at h;have:a.any (dj b)=true:=List.any_eq_true.2 ⟨x,ha,f9.2 hb⟩;rw[this]at h;simpa using h
 rcases Nat.lt_trichotomy t u with hlt|e|hlt
 ·exact(key _ _ h2 h1 (hf u hu t hlt)).symm
 ·rw[e]
 ·exact key _ _ h1 h2 (hf t ht u hlt)
theorem Wn.used{p:Nat}(hp:p<n.1.toNat):∃t,t<(am n).2.1.length∧Ip (am n) t p:=by
 obtain⟨s1,s2,s3,s4⟩:=W.src;have hlast:Ip (am n) n.2.1.length n.2.2.2.1.toNat:=by
  show((n.2.2.2.1.toNat:Nat):Int)∈((am n).2.1.getD n.2.1.length ae.z).2.1;rw[W.new,Int.toNat_of_nonneg s3];exact List.mem_singleton.2 rfl
 have hr:=(W.wf.2.2.1 p hp).2;generalize hz:p=z at hr;cases hr with
 |base=>exact⟨_,by rw[W.clen];omega,hlast⟩
 | @step t x y ht _ _ hy=>
  have hy:y∈t.2.1:=hy;obtain⟨i,hi,rfl⟩:=List.mem_iff_getElem.1 ht;refine⟨i,by rw[W.clen];omega,?_⟩;have e:(am n).2.1.getD i ae.z=n.2.1[i]:=by rw[W.old hi,List.getD_eq_getElem?_getD,List.getElem?_eq_getElem hi];rfl
  have hb:=(W.cin (t:=i) (by rw[W.clen];omega)).2.1 y (by rw[e];exact hy);show((y.toNat:Nat):Int)∈((am n).2.1.getD i ae.z).2.1;rw[Int.toNat_of_nonneg hb.1,e];exact hy
end
def ja9(n:bp):Nat→Nat:=yn (edA n.1.toNat false (am n).2.1 (am n).2.1.length)
def cpC(n:bp)(p:Nat):Nat:=cix (ja9 n) p
def ctC(n:bp)(t:Nat):Nat:=cix (ja9 n) (n.1.toNat+t)
def nCl(n:bp):Nat:=(jos (am n)).length
theorem jh3(n:bp):nCl n=(dv (ja9 n) (n.1.toNat+(am n).2.1.length)).length:=List.length_map _
section
variable {n : bp} (W : Wn n)
include W
theorem Wn.edge{t p:Nat}(ht:t<(am n).2.1.length)(hi:Ip (am n) t p):ja9 n p=ja9 n (n.1.toNat+t):=
 jed (e:=(p,n.1.toNat+t)) (jbl.2 ⟨t,(p:Int),ht,hi,by simp⟩)
theorem Wn.cl:FC.Cl n.1.toNat (am n).2.1.length (nCl n) (Ip (am n)) (cpC n) (ctC n):=by
 have hrep:Rep (ja9 n):=que _;have hroot:∀j,j<nCl n→∃p,p<n.1.toNat∧ja9 n p=p∧cpC n p=j:=fun j hj=>by
  rw[jh3]at hj;obtain⟨r,h1,h2,h3⟩:=jsm hj;by_cases hr:r<n.1.toNat
  ·exact⟨r,hr,h2,h3⟩
  ·obtain⟨t,rfl⟩:∃t,r=n.1.toNat+t:=⟨r-n.1.toNat,by omega⟩;have ht:t<(am n).2.1.length:=by omega
   obtain⟨⟨x,hx⟩,hb,_⟩:=W.cin ht;have hbx:=hb x hx;have:=W.edge (p:=x.toNat) ht (by show((x.toNat:Nat):Int)∈_;rw[Int.toNat_of_nonneg hbx.1];exact hx);have h4:=hrep.le x.toNat;omega
 refine⟨fun p hp=> ?_,fun t ht=> ?_,fun j hj=> ?_,fun j hj=> ?_,fun t p ht hp=>⟨fun hi=> ?_,fun he=> ?_⟩⟩
 ·rw[jh3];exact joo hrep (by omega)
 ·rw[jh3];exact joo hrep (by omega)
 ·obtain⟨p,h1,_,h3⟩:=hroot j hj;exact⟨p,h1,h3⟩
 ·obtain⟨p,h1,_,h3⟩:=hroot j hj;obtain⟨t,ht,hi⟩:=W.used h1;refine⟨t,ht,?_⟩;rw[←h3];unfold ctC cpC cix;rw[W.edge ht hi]
 ·unfold ctC cpC cix;rw[W.edge ht hi]
 ·have h1:ja9 n p=ja9 n (n.1.toNat+t):=(jsl hrep he).symm;have h2:=jha (es:=edA n.1.toNat false (am n).2.1 (am n).2.1.length) (S:=fun z=>if z<n.1.toNat then(z:Int)∈((am n).2.1.getD t ae.z).2.1 else((am n).2.1.getD (z-n.1.toNat) ae.z).2.1=((am n).2.1.getD t ae.z).2.1) (fun e he=>by
   obtain⟨u,x,hu,hx,rfl⟩:=jbl.1 he;have hx:x∈((am n).2.1.getD u ae.z).2.1:=hx;have hb:=(W.cin hu).2.1 x hx;dsimp only;rw[if_pos (by omega),if_neg (by omega),Int.toNat_of_nonneg hb.1,show n.1.toNat+u-n.1.toNat=u by omega];exact⟨fun h=>W.same hu ht hx h,fun h=>h▸hx⟩) h1
  rw[if_pos hp,if_neg (by omega),show n.1.toNat+t-n.1.toNat=t by omega]at h2;exact h2.2 rfl
end
theorem q6r{N T:Nat}{O:Nat→Nat→Prop}{cp ct:Nat→Nat}{a i j k:Nat}(h1:FC.PathN N T O cp ct a i j):∀{b:Nat},FC.PathN N T O cp ct b j k→∃c,FC.PathN N T O cp ct c i k:=fun{b} h2=>by
 induction h2 with
 |refl=>exact⟨_,h1⟩
 |step _ he ih=>
  obtain⟨c,hc⟩:=ih h1;exact⟨_, .step hc he⟩
section
variable {n : bp} (W : Wn n)
include W
theorem Wn.edgeC{t:Nat}(ht:t<(am n).2.1.length){x y:Int}(hx:x∈((am n).2.1.getD t ae.z).2.1)(hy:y∈((am n).2.1.getD t ae.z).2.2.1):
  FC.Edge n.1.toNat (am n).2.1.length (Op (am n)) (cpC n) (ctC n) (cpC n x.toNat) (cpC n y.toNat):=by
 obtain⟨_,hb1,hb2⟩:=W.cin ht;have b1:=hb1 x hx;have b2:=hb2 y hy;refine⟨t,y.toNat,ht,by omega,?_,by show((y.toNat:Nat):Int)∈_;rw[Int.toNat_of_nonneg b2.1];exact hy,rfl⟩;exact(W.cl.io t x.toNat ht (by omega)).1 (by show((x.toNat:Nat):Int)∈_;rw[Int.toNat_of_nonneg b1.1];exact hx)
theorem Wn.fwd{z:Nat}(hr:Rc n.2.1 (inT false) (te false) n.2.2.1.toNat z):∃k,FC.PathN n.1.toNat (am n).2.1.length (Op (am n)) (cpC n) (ctC n) k (cpC n n.2.2.1.toNat) (cpC n z):=by
 induction hr with
 |base=>exact⟨0, .refl _⟩
 | @step t x y ht hx _ hy ih=>
  obtain⟨k,hk⟩:=ih;obtain⟨i,hi,rfl⟩:=List.mem_iff_getElem.1 ht;have e:(am n).2.1.getD i ae.z=n.2.1[i]:=by rw[W.old hi,List.getD_eq_getElem?_getD,List.getElem?_eq_getElem hi];rfl
  exact⟨k+1, .step hk (W.edgeC (t:=i) (by rw[W.clen];omega) (by rw[e];exact hx) (by rw[e];exact hy))⟩
theorem Wn.bwd{z:Nat}(hr:Rc n.2.1 (inT true) (te true) n.2.2.2.1.toNat z):∃k,FC.PathN n.1.toNat (am n).2.1.length (Op (am n)) (cpC n) (ctC n) k (cpC n z) (cpC n n.2.2.2.1.toNat):=by
 induction hr with
 |base=>exact⟨0, .refl _⟩
 | @step t x y ht hx _ hy ih=>
  obtain⟨k,hk⟩:=ih;obtain⟨i,hi,rfl⟩:=List.mem_iff_getElem.1 ht;have e:(am n).2.1.getD i ae.z=n.2.1[i]:=by rw[W.old hi,List.getD_eq_getElem?_getD,List.getElem?_eq_getElem hi];rfl
  exact q6r (.step (.refl _) (W.edgeC (t:=i) (by rw[W.clen];omega) (by rw[e];exact hy) (by rw[e];exact hx))) hk
theorem Wn.sc:FC.SC n.1.toNat (am n).2.1.length (nCl n) (Op (am n)) (cpC n) (ctC n):=fun i j hi hj=>by
 obtain⟨p,hp,rfl⟩:=W.cl.pl i hi;obtain⟨q,hq,rfl⟩:=W.cl.pl j hj;obtain⟨k1,h1⟩:=W.bwd (W.wf.2.2.1 p hp).2;obtain⟨k2,h2⟩:=W.fwd (W.wf.2.2.1 q hq).1;have hb:FC.Edge n.1.toNat (am n).2.1.length (Op (am n)) (cpC n) (ctC n) (cpC n n.2.2.2.1.toNat) (cpC n n.2.2.1.toNat):=
  W.edgeC (t:=n.2.1.length) (by rw[W.clen];omega) (by rw[W.new];exact List.mem_singleton.2 rfl) (by rw[W.new];exact List.mem_singleton.2 rfl)
 exact q6r (.step h1 hb) h2
theorem Wn.con:jeh (am n)=true:=by
 have hN:(am n).1.toNat=n.1.toNat:=rfl;obtain⟨s1,s2,_,_⟩:=W.src;have hpair:∀t,t<(am n).2.1.length→∀x,x∈((am n).2.1.getD t ae.z).2.1∨x∈((am n).2.1.getD t ae.z).2.2.1→yn (edA n.1.toNat true (am n).2.1 (am n).2.1.length) x.toNat=yn (edA n.1.toNat true (am n).2.1 (am n).2.1.length) (n.1.toNat+t):=fun t ht x hx=>
  jed (e:=(x.toNat,n.1.toNat+t)) (jbl.2 ⟨t,x,ht,by show x∈_++_;exact List.mem_append.2 hx,rfl⟩)
 have hpl:∀z,z<n.1.toNat→yn (edA n.1.toNat true (am n).2.1 (am n).2.1.length) z=yn (edA n.1.toNat true (am n).2.1 (am n).2.1.length) n.2.2.1.toNat:=fun z hz=>by
  have hr:=(W.wf.2.2.1 z hz).1;clear hz
  induction hr with
  |base=>rfl
  | @step t x y ht hx _ hy ih=>
   obtain⟨i,hi,rfl⟩:=List.mem_iff_getElem.1 ht;have e:(am n).2.1.getD i ae.z=n.2.1[i]:=by rw[W.old hi,List.getD_eq_getElem?_getD,List.getElem?_eq_getElem hi];rfl
   have hi' :i<(am n).2.1.length:=by rw[W.clen];omega
   rw[hpair i hi' y (.inr (by rw[e];exact hy)),←hpair i hi' x (.inl (by rw[e];exact hx))];exact ih
 unfold jeh;rw[hN,Bool.and_eq_true];refine⟨decide_eq_true (by rw[W.clen];omega),List.all_eq_true.2 fun z hz=>decide_eq_true ?_⟩;have hz:=List.mem_range.1 hz;have h0:=hpl 0 (by omega);rw[h0];by_cases hzN:z<n.1.toNat
 ·exact hpl z hzN
 ·obtain⟨t,rfl⟩:∃t,z=n.1.toNat+t:=⟨z-n.1.toNat,by omega⟩;have ht:t<(am n).2.1.length:=by omega
  obtain⟨⟨x,hx⟩,hb,_⟩:=W.cin ht;have hbx:=hb x hx;rw[←hpair t ht x (.inl hx)];exact hpl _ (by omega)
end
end Go.Proofs.YtclbndfjhjladaaGreat
