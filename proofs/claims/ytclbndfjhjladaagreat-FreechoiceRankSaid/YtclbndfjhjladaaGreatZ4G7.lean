/-
  Freechoice: workflow nets, the reference's reach; both agree.
-/
import Derived.Test.YtclbndfjhjladaaGreatZ4G6
import Derived.Test.YtclbndfjhjladaaGreatZ4G2
set_option linter.all false
namespace Go.Proofs.YtclbndfjhjladaaGreat
open Go.K Go.M
theorem jip(l:List Bool)(h:l.length≤1000000):cf l false=some (l.any fun y=>false==y):=by
 have hL:wd l false (l.length:Int) 0=some (jfr (fun i=>(i:Int)) (qba (fun y=>false==y) l)):=by
  refine ua l false (fun y=>false==y) (fun i=>(i:Int)) (by omega) (fun i hi=> ?_) ?_
  ·simp(disch:=omega)only[gk,rs];rw[ag];exact qm0
  ·simp(disch:=omega)only[gk,rs]
 unfold cf ql;rw[hL,au,qis,au,qir]
theorem jwe{N:Nat}{f:Nat→Bool}:(bL N f).any (fun y=>false==y)=false↔∀z,z<N→f z=true:=by
 rw[List.any_eq_false];constructor
 ·intro h z hz;have:=h (f z) (ja2.2 ⟨z,hz,rfl⟩);cases hf:f z with
  |true=>rfl
  |false=>rw[hf]at this;simp at this
 ·intro h y hy;obtain⟨z,hz,rfl⟩:=ja2.1 hy;rw[h z hz];simp
theorem jhz:∀(l m:List Nat),l.Nodup→(∀x∈l,x∈m)→l.length≤m.length
 |[],_,_,_=>by simp
 |a::l,m,hn,hs=>by
  obtain⟨h1,h2⟩:=List.nodup_cons.1 hn;have ha:a∈m:=hs a List.mem_cons_self;have ih:=jhz l (m.erase a) h2 (fun x hx=>(List.mem_erase_of_ne (fun e=>h1 (by rw[←e];exact hx))).2 (hs x (List.mem_cons_of_mem _ hx)));rw[List.length_erase_of_mem ha]at ih;have:0<m.length:=List.length_pos_of_mem ha;simp only[List.length_cons];omega
section
variable {M : Nat} {ts : List af} (hM : M ≤ 100) (hT : ts.length ≤ 100) (hB : InB M ts) (s : Nat) (hs : s < M)
include hM hT hB hs
structure Rl (M : Nat) (ts : List af) (s : Nat) (o : List Int) : Prop where
 src : (s : Int) ∈ o
 nd : o.Nodup
 bd : ∀ x ∈ o, 0 ≤ x ∧ x < (M : Int)
 snd : ∀ x ∈ o, Rc ts (inT false) (uz false) s x.toNat
omit hM hT hB hs in
theorem Rl.len{M:Nat}{ts:List af}{s:Nat}{o:List Int}(h:Rl M ts s o):o.length≤M:=by
 have h1:(o.map Int.toNat).Nodup:=by
  refine List.Pairwise.map _ (S:=fun a b=>a≠b) (R:=fun a b=>(0≤a∧0≤b)∧a≠b) (fun a b hab=>by omega) ?_;exact List.Pairwise.imp_of_mem (fun ha hb hab=>⟨⟨(h.bd _ ha).1,(h.bd _ hb).1⟩,hab⟩) h.nd
 have h2:∀z∈o.map Int.toNat,z∈List.range M:=fun z hz=>by
  obtain⟨x,hx,rfl⟩:=List.mem_map.1 hz;have:=h.bd x hx;exact List.mem_range.2 (by omega)
 have:=jhz _ _ h1 h2;rw[List.length_map,List.length_range]at this;exact this
theorem j9e{o:List Int}(ho:Rl M ts s o){k:Nat}(hk:k<ts.length){x:Int}(hx:x∈o)(hin:x∈(ts.getD k af.z).2.1)(a b c d:Int):
  ∃o',Rl M ts s o' ∧(∃e,o' =o++e)∧(∀y∈(ts.getD k af.z).2.2.1,y∈o')∧qj9 a (k:Int) b ts c d (0,o)=some (.inl o'):=by
 obtain⟨⟨_,l2⟩,_,hb⟩:=hB _ (ao af.z hk);have hL:∃r,qj9 a (k:Int) b ts c d (0,o)=some r∧∃o',Rl M ts s o' ∧(∃e,o' =o++e)∧(∀y∈(ts.getD k af.z).2.2.1,y∈o')∧r= .inl o' :=by
  refine da (fun(st:Int×List Int)=>∃(j:Nat) (o' :List Int),st=((j:Int),o')∧j≤(ts.getD k af.z).2.2.1.length∧Rl M ts s o' ∧(∃e,o' =o++e)∧∀i,i<j→(ts.getD k af.z).2.2.1.getD i 0∈o') (fun st=>(ts.getD k af.z).2.2.1.length-st.1.toNat) _ _ ⟨0,o,rfl,Nat.zero_le _,ho,⟨[],(List.append_nil _).symm⟩,fun i hi=>by omega⟩ (by unfold many;show(ts.getD k af.z).2.2.1.length-0<_;omega) ?_;rintro _ ⟨j,o',rfl,hj,h1,⟨e,he⟩,h3⟩;have hlen:=h1.len;by_cases e1:j=(ts.getD k af.z).2.2.1.length
  ·refine⟨.done o',?_,o',h1,⟨e,he⟩,fun y hy=> ?_,rfl⟩
   ·simp(disch:=omega)only[tl,e1,rs]
   ·obtain⟨i,hi,rfl⟩:=tj 0 hy;exact h3 i (by omega)
  ·have hjl:j<(ts.getD k af.z).2.2.1.length:=by omega
   have hmem:=ao 0 hjl;obtain⟨b1,b2⟩:=hb _ hmem;cases hh:cn o' ((ts.getD k af.z).2.2.1.getD j 0)with
   |true=>
    refine⟨.next (((j+1:Nat):Int),o'),?_,⟨j+1,o',rfl,by omega,h1,⟨e,he⟩,fun i hi=> ?_⟩,by simp only[Int.toNat_natCast];omega⟩
    ·simp(disch:=omega)only[tl,rx o' (by omega),hh,Bool.not_true,ag,rs]
    ·by_cases e2:i=j
     ·rw[e2];exact iq.1 hh
     ·exact h3 i (by omega)
   |false=>
    have hni:=qlm.1 hh;refine⟨.next (((j+1:Nat):Int),o' ++[(ts.getD k af.z).2.2.1.getD j 0]),?_,⟨j+1,_,rfl,by omega,⟨List.mem_append_left _ h1.src,?_,fun y hy=> ?_,fun y hy=> ?_⟩,⟨e++[(ts.getD k af.z).2.2.1.getD j 0],by rw[he,List.append_assoc]⟩,fun i hi=> ?_⟩,by simp only[Int.toNat_natCast];omega⟩
    ·simp(disch:=omega)only[tl,rx o' (by omega),hh,Bool.not_false,cond_true,ag,rs]
    ·rw[List.nodup_append];refine⟨h1.nd,by simp,fun a ha b hb=> ?_⟩;rw[List.mem_singleton.1 hb];rintro rfl;exact hni ha
    ·rcases List.mem_append.1 hy with hy|hy
     ·exact h1.bd y hy
     ·rw[List.mem_singleton.1 hy];exact⟨b1,b2⟩
    ·rcases List.mem_append.1 hy with hy|hy
     ·exact h1.snd y hy
     ·rw[List.mem_singleton.1 hy];exact .step (ao af.z hk) hin (h1.snd x (by rw[he];exact List.mem_append_left _ hx)) hmem
    ·by_cases e2:i=j
     ·rw[e2];exact List.mem_append_right _ (List.mem_singleton.2 rfl)
     ·exact List.mem_append_left _ (h3 i (by omega))
 obtain⟨_,h,o',h1,h2,h3,rfl⟩:=hL;exact⟨o',h1,h2,h3,h⟩
theorem j9f{o:List Int}(ho:Rl M ts s o){i:Nat}(hi:i<o.length)(b c d:Int):
  ∃o',Rl M ts s o' ∧(∃e,o' =o++e)∧(∀t∈ts,o.getD i 0∈t.2.1→∀y∈t.2.2.1,y∈o')∧qka (i:Int) b ts c d (0,o)=some (.inl o'):=by
 have hL:∃r,qka (i:Int) b ts c d (0,o)=some r∧∃o',Rl M ts s o' ∧(∃e,o' =o++e)∧(∀t∈ts,o.getD i 0∈t.2.1→∀y∈t.2.2.1,y∈o')∧r= .inl o' :=by
  refine da (fun(st:Int×List Int)=>∃(k:Nat) (o' :List Int),st=((k:Int),o')∧k≤ts.length∧Rl M ts s o' ∧(∃e,o' =o++e)∧∀q,q<k→o.getD i 0∈(ts.getD q af.z).2.1→∀y∈(ts.getD q af.z).2.2.1,y∈o') (fun st=>ts.length-st.1.toNat) _ _ ⟨0,o,rfl,Nat.zero_le _,ho,⟨[],(List.append_nil _).symm⟩,fun i hi=>by omega⟩ (by unfold many;simp;omega) ?_;rintro _ ⟨k,o',rfl,hk,h1,⟨e,he⟩,h3⟩;have hlen:=h1.len;have hlo:o'.length=o.length+e.length:=by rw[he,List.length_append]
  have hget:o'.getD i 0=o.getD i 0:=by rw[he,List.getD_eq_getElem?_getD,List.getD_eq_getElem?_getD,List.getElem?_append_left hi]
  by_cases e1:k=ts.length
  ·refine⟨.done o',?_,o',h1,⟨e,he⟩,fun t ht=> ?_,rfl⟩
   ·simp(disch:=omega)only[tm,e1,rs]
   ·obtain⟨q,hq,rfl⟩:=tj af.z ht;exact h3 q (by omega)
  ·have hkl:k<ts.length:=by omega
   obtain⟨⟨l1,_⟩,_⟩:=hB _ (ao af.z hkl);cases hh:cn (ts.getD k af.z).2.1 (o.getD i 0)with
   |false=>
    have hni:=qlm.1 hh;refine⟨.next (((k+1:Nat):Int),o'),?_,⟨k+1,o',rfl,by omega,h1,⟨e,he⟩,fun q hq hin=> ?_⟩,by simp only[Int.toNat_natCast];omega⟩
    ·simp(disch:=omega)only[tm,rx (ts.getD k af.z).2.1 (by omega),hget,hh,Bool.not_false,cond_true,ag,rs]
    ·by_cases e2:q=k
     ·rw[e2]at hin;exact absurd hin hni
     ·exact h3 q (by omega) hin
   |true=>
    obtain⟨o2,g1,⟨e2,g2⟩,g3,g4⟩:=j9e hM hT hB s hs h1 hkl (x:=o.getD i 0) (by rw[he];exact List.mem_append_left _ (ao 0 hi)) (iq.1 hh) (i:Int) b c d;refine⟨.next (((k+1:Nat):Int),o2),?_,⟨k+1,o2,rfl,by omega,g1,⟨e++e2,by rw[g2,he,List.append_assoc]⟩,fun q hq hin y hy=> ?_⟩,by simp only[Int.toNat_natCast];omega⟩
    ·simp(disch:=omega)only[tm,rx (ts.getD k af.z).2.1 (by omega),hget,hh,Bool.not_true,g4,ag,rs]
    ·by_cases e3:q=k
     ·rw[e3]at hy;exact g3 y hy
     ·rw[g2];exact List.mem_append_left _ (h3 q (by omega) hin y hy)
 obtain⟨_,h,o',h1,h2,h3,rfl⟩:=hL;exact⟨o',h1,h2,h3,h⟩
theorem jh8(a b:Int):∃o,qei ((M:Int),ts,a,b,()) (s:Int)=some o∧o.length≤M∧(∀x∈o,0≤x)∧∀z:Nat,(z:Int)∈o↔Rc ts (inT false) (uz false) s z:=by
 have h0:Rl M ts s [(s:Int)]:=⟨by simp,by simp,fun x hx=>by rw[List.mem_singleton.1 hx];omega,fun x hx=>by rw[List.mem_singleton.1 hx];exact .base⟩;have hL:∃r,qwd (M:Int) ts a b (0,[(s:Int)])=some r∧∃o,Rl M ts s o∧(∀x∈o,∀t∈ts,x∈t.2.1→∀y∈t.2.2.1,y∈o)∧r= .inl o:=by
  refine da (fun(st:Int×List Int)=>∃(i:Nat) (o:List Int),st=((i:Int),o)∧i≤o.length∧Rl M ts s o∧∀k,k<i→∀t∈ts,o.getD k 0∈t.2.1→∀y∈t.2.2.1,y∈o) (fun st=>M-st.1.toNat) _ _ ⟨0,_,rfl,Nat.zero_le _,h0,fun k hk=>by omega⟩ (by unfold many;simp;omega) ?_;rintro _ ⟨i,o,rfl,hi,h1,h2⟩;have hlen:=h1.len;by_cases e:i=o.length
  ·refine⟨.done o,?_,o,h1,fun x hx=> ?_,rfl⟩
   ·simp(disch:=omega)only[qai,e,rs]
   ·obtain⟨k,hk,rfl⟩:=tj 0 hx;exact h2 k (by omega)
  ·have hil:i<o.length:=by omega
   obtain⟨o',g1,⟨e',g2⟩,g3,g4⟩:=j9f hM hT hB s hs h1 hil (M:Int) a b;have hl' :o'.length=o.length+e'.length:=by rw[g2,List.length_append]
   refine⟨.next (((i+1:Nat):Int),o'),?_,⟨i+1,o',rfl,by omega,g1,fun k hk t ht hin y hy=> ?_⟩,by simp only[Int.toNat_natCast];omega⟩
   ·simp(disch:=omega)only[qai,g4,rs];rw[ag]
   ·have hget:o'.getD k 0=o.getD k 0:=by rw[g2,List.getD_eq_getElem?_getD,List.getD_eq_getElem?_getD,List.getElem?_append_left (by omega)]
    rw[hget]at hin;by_cases e2:k=i
    ·rw[e2]at hin;exact g3 t ht hin y hy
    ·rw[g2];exact List.mem_append_left _ (h2 k (by omega) t ht hin y hy)
 obtain⟨_,ho,o,h1,h2,rfl⟩:=hL;refine⟨o,?_,h1.len,fun x hx=>(h1.bd x hx).1,fun z=>⟨fun h=>by simpa using h1.snd _ h,fun h=> ?_⟩⟩
 ·unfold qei;simp only;rw[ho];rfl
 ·induction h with
  |base=>exact h1.src
  | @step t x y ht hx _ hy ih=>
   obtain⟨_,hb1,hb2⟩:=hB t ht;have hx' :0≤x:=(hb1 x hx).1;rw[Int.toNat_of_nonneg hx']at ih;have hy' :0≤y:=(hb2 y hy).1;rw[Int.toNat_of_nonneg hy'];exact h2 x ih t ht hx y hy
end
def jor(t:af):af:=(t.1,t.2.2.1,t.2.1,())
theorem jn3{M:Nat}{ts:List af}(hT:ts.length≤100)(hB:InB M ts)(m a b:Int):qdl (m,ts,a,b,())=some (m,ts.map jor,b,a,()):=by
 have hL:∀q1 q2 q3 q4 q5 q6 q7 q8 q9 q10,qpm q1 ts q2 q3 q4 q5 q6 q7 q8 q9 q10 (0,[])=some (.inl (ts.map jor)):=by
  intro q1 q2 q3 q4 q5 q6 q7 q8 q9 q10;refine a9 (fun k=>((k:Int),(ts.take k).map jor)) ts.length (aw (by omega)) _ (fun k hk=> ?_) ?_ _ rfl
  ·obtain⟨⟨l1,l2⟩,_⟩:=hB _ (ao af.z hk);have hl:((ts.take k).map jor).length≤100:=by rw[List.length_map,List.length_take];omega
   rw[ct ts k af.z hk,List.map_append];simp(disch:=omega)only[uh,List.nil_append,Nat.zero_add,ag,rs];rfl
  ·rw[List.take_length];simp(disch:=omega)only[uh,rs]
 unfold qdl;simp only;rw[hL];rfl
theorem InB.rev{M:Nat}{ts:List af}(h:InB M ts):InB M (ts.map jor):=by
 intro t ht;obtain⟨u,hu,rfl⟩:=List.mem_map.1 ht;obtain⟨⟨h1,h2⟩,h3,h4⟩:=h u hu;exact⟨⟨h2,h1⟩,h4,h3⟩
theorem j5h{ts:List af}{s z:Nat}:Rc (ts.map jor) (inT false) (uz false) s z↔Rc ts (inT true) (uz true) s z:=by
 constructor
 ·intro h
  induction h with
  |base=>exact .base
  |step ht hx _ hy ih=>
   obtain⟨u,hu,rfl⟩:=List.mem_map.1 ht;exact .step hu hx ih hy
 ·intro h
  induction h with
  |base=>exact .base
  | @step t x y ht hx _ hy ih=>exact .step (t:=jor t) (List.mem_map.2 ⟨t,ht,rfl⟩) hx ih hy
def WF(M:Nat)(ts:List af)(a b:Int):Prop:=
 a≠b∧(∀t∈ts,a∉t.2.2.1∧b∉t.2.1)∧(∀z,z<M→Rc ts (inT false) (uz false) a.toNat z∧Rc ts (inT true) (uz true) b.toNat z)∧
  ∀t∈ts,(∃x∈t.2.1,Rc ts (inT false) (uz false) a.toNat x.toNat)∧∃x∈t.2.2.1,Rc ts (inT true) (uz true) b.toNat x.toNat
theorem js8(a b:List Int)(ha:a.length≤1000000)(hb:b.length≤1000000):qhq a b=some (a.any (cn b)):=by
 have hL:q06 a b 0=some (bif a.any (cn b)then .inr true else .inl ()):=by
  refine f7 a 0 (cn b) true (by omega) (fun i hi=> ?_) ?_
  ·simp(disch:=omega)only[qdm,rs];rw[rx _ hb,ag,au];exact qm0
  ·simp(disch:=omega)only[qdm,rs]
 unfold qhq;rw[hL];cases a.any (cn b)<;>rfl
theorem qot{n:ca}(hv:c6 n=true)(h:Small n):1≤n.1∧n.1≤40∧n.2.1.length≤60∧(0≤n.2.2.1∧n.2.2.1<n.1)∧(0≤n.2.2.2.1∧n.2.2.2.1<n.1)∧InB n.1.toNat n.2.1:=by
 unfold c6 at hv;simp only[Bool.and_eq_true,decide_eq_true_eq,Bool.not_eq_true',List.any_eq_false]at hv;obtain⟨⟨⟨⟨⟨h1,h2⟩,h3⟩,h4⟩,h5⟩,h6⟩:=hv;refine⟨h1,h2,h3,h5,h6,fun t ht=> ?_⟩;have:=h4 t ht;unfold q7i at this;simp only[Bool.or_eq_true,not_or,Bool.not_eq_true',Bool.not_eq_false]at this;have s1:=(q14.1 this.1.2).1;have s2:=(q14.1 this.2).1;rw[Int.toNat_of_nonneg (by omega)];exact⟨⟨h.ins t ht,h.outs t ht⟩,s1,s2⟩
theorem jkn{n:ca}(h:Small n):∃b,ns n=some b∧(b=true↔c6 n=true∧WF n.1.toNat n.2.1 n.2.2.1 n.2.2.2.1):=by
 unfold ns;rw[yu h,au];cases hv:c6 n with
 |false=>exact⟨false,rfl,by simp⟩
 |true=>
  obtain⟨p1,p2,p3,⟨p4,p5⟩,⟨p6,p7⟩,hB⟩:=qot hv h;obtain⟨m,ts,a,b,⟨⟩⟩:=n;simp only at p1 p2 p3 p4 p5 p6 p7 hB⊢;obtain⟨M,rfl⟩:∃M:Nat,m=(M:Int):=⟨m.toNat,by omega⟩;obtain⟨s,rfl⟩:∃s:Nat,a=(s:Int):=⟨a.toNat,by omega⟩;obtain⟨k,rfl⟩:∃k:Nat,b=(k:Int):=⟨b.toNat,by omega⟩;simp only[Int.toNat_natCast,Bool.not_true,cond_false]at hB⊢;by_cases e1:s=k
  ·refine⟨false,by rw[jph (by omega)],?_⟩;simp[WF,e1]
  ·rw[jiz (by omega)];have hL0:qlr ts (ts.length:Int) (M:Int) ts (s:Int) (k:Int) 0=some (bif ts.any (fun t=>cn t.2.2.1 (s:Int)||cn t.2.1 (k:Int))then .inr false else .inl ()):=by
    refine f7 ts af.z (fun t=>cn t.2.2.1 (s:Int)||cn t.2.1 (k:Int)) false (by omega) (fun i hi=> ?_) ?_
    ·obtain⟨⟨l1,l2⟩,_⟩:=hB _ (ao af.z hi);simp(disch:=omega)only[sn,om (ts.getD i af.z).2.2.1 (by omega),om (ts.getD i af.z).2.1 (by omega),rs];rw[ag];cases cn (ts.getD i af.z).2.2.1 (s:Int)<;>cases cn (ts.getD i af.z).2.1 (k:Int)<;>rfl
    ·simp(disch:=omega)only[sn,rs]
   rw[hL0];cases ha:ts.any (fun t=>cn t.2.2.1 (s:Int)||cn t.2.1 (k:Int))with
   |true=>
    refine⟨false,rfl,?_⟩;obtain⟨t,ht,h1⟩:=List.any_eq_true.1 ha;simp only[Bool.or_eq_true,iq]at h1;refine⟨(fun e=>by cases e),fun e=> ?_⟩;have:=e.2.2.1 t ht;rcases h1 with h1|h1
    ·exact absurd h1 this.1
    ·exact absurd h1 this.2
   |false=>
    have hno:∀t∈ts,(s:Int)∉t.2.2.1∧(k:Int)∉t.2.1:=fun t ht=>by
     have:=List.any_eq_false.1 ha t ht;simp only[Bool.or_eq_true,iq,not_or]at this;exact this
    obtain⟨f,g,r1,r2,r3⟩:=jdj (by omega) (by omega) hB false s (by omega) (s:Int) (k:Int);obtain⟨f',g',q1,q2,q3⟩:=jdj (by omega) (by omega) hB true k (by omega) (s:Int) (k:Int);have cb:∀(N:Nat) (f:Nat→Bool),N≤1000→cf (bL N f) false=some ((bL N f).any fun y=>false==y):=fun N f hN=>jip _ (by rw[pf];omega)
    simp only[cond_false,au,mo];have hL1:qls [false,true] 2 (M:Int) ts (s:Int) (k:Int) 0=some (bif (List.range 2).all (fun i=>bif i==0 then !(bL M f).any (fun y=>false==y)&& !(bL ts.length g).any (fun y=>false==y)else !(bL M f').any (fun y=>false==y)&& !(bL ts.length g').any (fun y=>false==y))then .inl ()else .inr false):=by
     have st0:∀{R:Type} (nx:Int→Option R) (dn:Unit→Option R) (rt:Bool→Option R),sq [false,true] 2 (M:Int) ts (s:Int) (k:Int) ((0:Nat):Int) nx dn rt=(bif (!(bL M f).any (fun y=>false==y)&& !(bL ts.length g).any (fun y=>false==y))then nx ((0+1:Nat):Int)else rt false):=by
      intro R nx dn rt;show(bnd (mq ((M:Int),ts,(s:Int),(k:Int),()) (s:Int) false) _)=_;rw[r1];simp only[au,cb M f (by omega),cb ts.length g (by omega)];cases(bL M f).any (fun y=>false==y)<;>cases(bL ts.length g).any (fun y=>false==y)<;>rfl
     have st1:∀{R:Type} (nx:Int→Option R) (dn:Unit→Option R) (rt:Bool→Option R),sq [false,true] 2 (M:Int) ts (s:Int) (k:Int) ((1:Nat):Int) nx dn rt=(bif (!(bL M f').any (fun y=>false==y)&& !(bL ts.length g').any (fun y=>false==y))then nx ((1+1:Nat):Int)else rt false):=by
      intro R nx dn rt;show(bnd (mq ((M:Int),ts,(s:Int),(k:Int),()) (k:Int) true) _)=_;rw[q1];simp only[au,cb M f' (by omega),cb ts.length g' (by omega)];cases(bL M f').any (fun y=>false==y)<;>cases(bL ts.length g').any (fun y=>false==y)<;>rfl
     refine fj (fun i:Nat=>(i:Int)) 2 (aw (by omega)) _ () false ?_ ?_ rfl
     ·intro i hi hp;have:i=0∨i=1:=by omega
      rcases this with rfl|rfl
      ·refine(st0 _ _ _).trans ?_;simp only[BEq.rfl,cond_true]at hp;rw[hp];rfl
      ·refine(st1 _ _ _).trans ?_;simp only[show((1:Nat)==0)=false from rfl,cond_false]at hp;rw[hp];rfl
     ·intro i hi hp;have:i=0∨i=1:=by omega
      rcases this with rfl|rfl
      ·refine(st0 _ _ _).trans ?_;simp only[BEq.rfl,cond_true]at hp;rw[hp];rfl
      ·refine(st1 _ _ _).trans ?_;simp only[show((1:Nat)==0)=false from rfl,cond_false]at hp;rw[hp];rfl
    have ev:(List.range 2).all (fun i=>bif i==0 then !(bL M f).any (fun y=>false==y)&& !(bL ts.length g).any (fun y=>false==y)else !(bL M f').any (fun y=>false==y)&& !(bL ts.length g').any (fun y=>false==y))=((!(bL M f).any (fun y=>false==y)&& !(bL ts.length g).any (fun y=>false==y))&&((!(bL M f').any (fun y=>false==y)&& !(bL ts.length g').any (fun y=>false==y))&&true)):=rfl;rw[ev]at hL1;refine⟨_,by rw[hL1,au];exact qgy,?_⟩;simp only[Bool.and_true,Bool.and_eq_true,Bool.not_eq_true',jwe];unfold WF;simp only[Int.toNat_natCast];constructor
    ·rintro⟨⟨h1,h2⟩,h3,h4⟩;refine⟨trivial,by omega,hno,fun z hz=>⟨(r2 z).1 (h1 z hz),(q2 z).1 (h3 z hz)⟩,fun t ht=> ?_⟩;obtain⟨i,hi,rfl⟩:=tj af.z ht;exact⟨(r3 i hi).1 (h2 i hi),(q3 i hi).1 (h4 i hi)⟩
    ·rintro⟨_,_,_,h3,h4⟩;exact⟨⟨fun z hz=>(r2 z).2 (h3 z hz).1,fun i hi=>(r3 i hi).2 (h4 _ (ao af.z hi)).1⟩,fun z hz=>(q2 z).2 (h3 z hz).2,fun i hi=>(q3 i hi).2 (h4 _ (ao af.z hi)).2⟩
theorem jkq{n:ca}(h:Small n):∃b,ny n=some b∧(b=true↔c6 n=true∧WF n.1.toNat n.2.1 n.2.2.1 n.2.2.2.1):=by
 unfold ny;rw[oq h,au];cases hv:c6 n with
 |false=>exact⟨false,rfl,by simp⟩
 |true=>
  obtain⟨p1,p2,p3,⟨p4,p5⟩,⟨p6,p7⟩,hB⟩:=qot hv h;obtain⟨m,ts,a,b,⟨⟩⟩:=n;simp only at p1 p2 p3 p4 p5 p6 p7 hB⊢;obtain⟨M,rfl⟩:∃M:Nat,m=(M:Int):=⟨m.toNat,by omega⟩;obtain⟨s,rfl⟩:∃s:Nat,a=(s:Int):=⟨a.toNat,by omega⟩;obtain⟨k,rfl⟩:∃k:Nat,b=(k:Int):=⟨b.toNat,by omega⟩;simp only[Int.toNat_natCast,Bool.not_true,cond_false]at hB⊢;by_cases e1:s=k
  ·refine⟨false,by rw[jph (by omega)],?_⟩;simp[WF,e1]
  ·rw[jiz (by omega),jn3 (by omega) hB];obtain⟨fr,f1,f2,f3,f4⟩:=jh8 (M:=M) (ts:=ts) (by omega) (by omega) hB s (by omega) (s:Int) (k:Int);obtain⟨bk,g1,g2,g3,g4⟩:=jh8 (M:=M) (ts:=ts.map jor) (by omega) (by rw[List.length_map];omega) hB.rev k (by omega) (k:Int) (s:Int);have g4:∀z:Nat,(z:Int)∈bk↔Rc ts (inT true) (uz true) k z:=fun z=>(g4 z).trans j5h
   rw[f1];simp only[au];rw[g1];simp only[au];have hL0:qlx fr bk (M:Int) ts (s:Int) (k:Int) 0=some (bif (List.range M).all (fun z=>cn fr (z:Int)&&cn bk (z:Int))then .inl ()else .inr false):=by
    refine fj (fun i:Nat=>(i:Int)) M (aw (by omega)) _ () false ?_ ?_ ?_
    ·intro i hi hp;simp only[Bool.and_eq_true]at hp;simp(disch:=omega)only[l6,rx fr (by omega),rx bk (by omega),hp.1,hp.2,Bool.not_true,ag,rs]
    ·intro i hi hp;simp(disch:=omega)only[l6,rx fr (by omega),rx bk (by omega),rs];cases h1:cn fr (i:Int)<;>cases h2:cn bk (i:Int)<;>first|rfl|(rw[h1,h2]at hp;cases hp)
    ·simp(disch:=omega)only[l6,rs]
   have hL1:qly fr bk (M:Int) ts (s:Int) (k:Int) 0=some (bif ts.any (fun t=>cn t.2.2.1 (s:Int)||cn t.2.1 (k:Int)|| !t.2.1.any (cn fr)|| !t.2.2.1.any (cn bk))then .inr false else .inl ()):=by
    refine f7 ts af.z (fun t=>cn t.2.2.1 (s:Int)||cn t.2.1 (k:Int)|| !t.2.1.any (cn fr)|| !t.2.2.1.any (cn bk)) false (by omega) (fun i hi=> ?_) ?_
    ·obtain⟨⟨l1,l2⟩,_⟩:=hB _ (ao af.z hi);simp(disch:=omega)only[sr,rx (ts.getD i af.z).2.2.1 (by omega),rx (ts.getD i af.z).2.1 (by omega),js8 (ts.getD i af.z).2.1 fr (by omega) (by omega),js8 (ts.getD i af.z).2.2.1 bk (by omega) (by omega),rs];rw[ag];cases cn (ts.getD i af.z).2.2.1 (s:Int)<;>cases cn (ts.getD i af.z).2.1 (k:Int)<;>cases(ts.getD i af.z).2.1.any (cn fr)<;>cases(ts.getD i af.z).2.2.1.any (cn bk)<;>rfl
    ·simp(disch:=omega)only[sr,rs]
   refine⟨(List.range M).all (fun z=>cn fr (z:Int)&&cn bk (z:Int))&& !ts.any (fun t=>cn t.2.2.1 (s:Int)||cn t.2.1 (k:Int)|| !t.2.1.any (cn fr)|| !t.2.2.1.any (cn bk)),?_,?_⟩
   ·rw[hL0];cases(List.range M).all (fun z=>cn fr (z:Int)&&cn bk (z:Int))with
    |false=>rfl
    |true=>
     simp only[cond_true,au,mo,Bool.true_and];rw[hL1];cases ts.any (fun t=>cn t.2.2.1 (s:Int)||cn t.2.1 (k:Int)|| !t.2.1.any (cn fr)|| !t.2.2.1.any (cn bk))<;>rfl
   ·have hq:ts.any (fun t=>cn t.2.2.1 (s:Int)||cn t.2.1 (k:Int)|| !t.2.1.any (cn fr)|| !t.2.2.1.any (cn bk))=false↔∀t∈ts,((s:Int)∉t.2.2.1∧(k:Int)∉t.2.1)∧(∃x∈t.2.1,x∈fr)∧∃y∈t.2.2.1,y∈bk:=by
     rw[List.any_eq_false];refine forall_congr' fun t=>forall_congr' fun _=> ?_
     rw[Bool.not_eq_true,Bool.or_eq_false_iff,Bool.or_eq_false_iff,Bool.or_eq_false_iff,qlm,qlm,Bool.not_eq_false',Bool.not_eq_false',List.any_eq_true,List.any_eq_true];simp only[iq];exact⟨fun⟨⟨⟨a,b⟩,c⟩,d⟩=>⟨⟨a,b⟩,c,d⟩,fun⟨⟨a,b⟩,c,d⟩=>⟨⟨⟨a,b⟩,c⟩,d⟩⟩
    rw[Bool.and_eq_true,Bool.not_eq_true',hq,List.all_eq_true];unfold WF;simp only[Int.toNat_natCast,List.mem_range,Bool.and_eq_true,iq];constructor
    ·rintro⟨h1,h2⟩;refine⟨trivial,by omega,fun t ht=>(h2 t ht).1,fun z hz=>⟨(f4 z).1 (h1 z hz).1,(g4 z).1 (h1 z hz).2⟩,fun t ht=> ?_⟩;obtain⟨_,⟨x,hx,hx'⟩,⟨y,hy,hy'⟩⟩:=h2 t ht;refine⟨⟨x,hx,(f4 _).1 (by rw[Int.toNat_of_nonneg (f3 x hx')];exact hx')⟩,⟨y,hy,(g4 _).1 (by rw[Int.toNat_of_nonneg (g3 y hy')];exact hy')⟩⟩
    ·rintro⟨_,_,h2,h3,h4⟩;refine⟨fun z hz=>⟨(f4 z).2 (h3 z hz).1,(g4 z).2 (h3 z hz).2⟩,fun t ht=> ?_⟩;obtain⟨⟨x,hx,hx'⟩,⟨y,hy,hy'⟩⟩:=h4 t ht;obtain⟨_,hb1,hb2⟩:=hB t ht;refine⟨h2 t ht,⟨x,hx,?_⟩,⟨y,hy,?_⟩⟩
     ·have:=(f4 _).2 hx';rwa[Int.toNat_of_nonneg (hb1 x hx).1]at this
     ·have:=(g4 _).2 hy';rwa[Int.toNat_of_nonneg (hb2 y hy).1]at this
theorem jl8{n:ca}(h:Small n):∃b,ns n=some b∧ny n=some b∧(b=true↔c6 n=true∧WF n.1.toNat n.2.1 n.2.2.1 n.2.2.2.1):=by
 obtain⟨b,h1,h2⟩:=jkn h;obtain⟨b',h3,h4⟩:=jkq h;have:b' =b:=by rw[Bool.eq_iff_iff,h2,h4]
 exact⟨b,h1,by rw[h3,this],h2⟩
end Go.Proofs.YtclbndfjhjladaaGreat
