/-
  Freechoice: workflow nets, the reference's reach; both agree.
-/
import Derived.Test.YtclbndfjhjladaaGreatZ5PG2
set_option linter.all false
namespace Go.Proofs.YtclbndfjhjladaaGreat
open Go.K Go.M
theorem qk0(l:List Bool)(h:l.length≤1000000):bn l false=some (l.any fun y=>false==y):=by
 have hL:wm l false (l.length:Int) 0=some (q4y (fun i=>(i:Int)) (vx (fun y=>false==y) l)):=by
  refine sq l false (fun y=>false==y) (fun i=>(i:Int)) (by omega) (fun i hi=> ?_) ?_
  ·simp(disch:=omega)only[ii,rs];rw[ah];exact qqx
  ·simp(disch:=omega)only[ii,rs]
 unfold bn qp;rw[hL,ax,qe8,ax,qhk]
theorem joa{N:Nat}{f:Nat→Bool}:(bL N f).any (fun y=>false==y)=false↔∀z,z<N→f z=true:=by
 rw[List.any_eq_false];constructor
 ·intro h z hz;have:=h (f z) (q4a.2 ⟨z,hz,rfl⟩);cases hf:f z with
  |true=>rfl
  |false=>rw[hf]at this;simp at this
 ·intro h y hy;obtain⟨z,hz,rfl⟩:=q4a.1 hy;rw[h z hz];simp
theorem q93:∀(l m:List Nat),l.Nodup→(∀x∈l,x∈m)→l.length≤m.length
 |[],_,_,_=>by simp
 |a::l,m,hn,hs=>by
  obtain⟨h1,h2⟩:=List.nodup_cons.1 hn;have ha:a∈m:=hs a List.mem_cons_self;have ih:=q93 l (m.erase a) h2 (fun x hx=>(List.mem_erase_of_ne (fun e=>h1 (by rw[←e];exact hx))).2 (hs x (List.mem_cons_of_mem _ hx)));rw[List.length_erase_of_mem ha]at ih;have:0<m.length:=List.length_pos_of_mem ha;simp only[List.length_cons];omega
section
variable {M : Nat} {ts : List ae} (hM : M ≤ 100) (hT : ts.length ≤ 100) (hB : InB M ts) (s : Nat) (hs : s < M)
include hM hT hB hs
structure Rl (M : Nat) (ts : List ae) (s : Nat) (o : List Int) : Prop where
 src : (s : Int) ∈ o
 nd : o.Nodup
 bd : ∀ x ∈ o, 0 ≤ x ∧ x < (M : Int)
 snd : ∀ x ∈ o, Rc ts (inT false) (te false) s x.toNat
omit hM hT hB hs in
theorem Rl.len{M:Nat}{ts:List ae}{s:Nat}{o:List Int}(h:Rl M ts s o):o.length≤M:=by
 have h1:(o.map Int.toNat).Nodup:=by
  refine List.Pairwise.map _ (S:=fun a b=>a≠b) (R:=fun a b=>(0≤a∧0≤b)∧a≠b) (fun a b hab=>by omega) ?_;exact List.Pairwise.imp_of_mem (fun ha hb hab=>⟨⟨(h.bd _ ha).1,(h.bd _ hb).1⟩,hab⟩) h.nd
 have h2:∀z∈o.map Int.toNat,z∈List.range M:=fun z hz=>by
  obtain⟨x,hx,rfl⟩:=List.mem_map.1 hz;have:=h.bd x hx;exact List.mem_range.2 (by omega)
 have:=q93 _ _ h1 h2;rw[List.length_map,List.length_range]at this;exact this
theorem j15{o:List Int}(ho:Rl M ts s o){k:Nat}(hk:k<ts.length){x:Int}(hx:x∈o)(hin:x∈(ts.getD k ae.z).2.1)(a b c d:Int):
  ∃o',Rl M ts s o' ∧(∃e,o' =o++e)∧(∀y∈(ts.getD k ae.z).2.2.1,y∈o')∧qir a (k:Int) b ts c d (0,o)=some (.inl o'):=by
 obtain⟨⟨_,l2⟩,_,hb⟩:=hB _ (au ae.z hk);have hL:∃r,qir a (k:Int) b ts c d (0,o)=some r∧∃o',Rl M ts s o' ∧(∃e,o' =o++e)∧(∀y∈(ts.getD k ae.z).2.2.1,y∈o')∧r= .inl o' :=by
  refine og (fun(st:Int×List Int)=>∃(j:Nat) (o' :List Int),st=((j:Int),o')∧j≤(ts.getD k ae.z).2.2.1.length∧Rl M ts s o' ∧(∃e,o' =o++e)∧∀i,i<j→(ts.getD k ae.z).2.2.1.getD i 0∈o') (fun st=>(ts.getD k ae.z).2.2.1.length-st.1.toNat) _ _ ⟨0,o,rfl,Nat.zero_le _,ho,⟨[],(List.append_nil _).symm⟩,fun i hi=>by omega⟩ (by unfold many;show(ts.getD k ae.z).2.2.1.length-0<_;omega) ?_;rintro _ ⟨j,o',rfl,hj,h1,⟨e,he⟩,h3⟩;have hlen:=h1.len;by_cases e1:j=(ts.getD k ae.z).2.2.1.length
  ·refine⟨.done o',?_,o',h1,⟨e,he⟩,fun y hy=> ?_,rfl⟩
   ·simp(disch:=omega)only[ub,e1,rs]
   ·obtain⟨i,hi,rfl⟩:=t8 0 hy;exact h3 i (by omega)
  ·have hjl:j<(ts.getD k ae.z).2.2.1.length:=by omega
   have hmem:=au 0 hjl;obtain⟨b1,b2⟩:=hb _ hmem;cases hh:dj o' ((ts.getD k ae.z).2.2.1.getD j 0)with
   |true=>
    refine⟨.next (((j+1:Nat):Int),o'),?_,⟨j+1,o',rfl,by omega,h1,⟨e,he⟩,fun i hi=> ?_⟩,by simp only[Int.toNat_natCast];omega⟩
    ·simp(disch:=omega)only[ub,qfq o' (by omega),hh,Bool.not_true,ah,rs]
    ·by_cases e2:i=j
     ·rw[e2];exact f9.1 hh
     ·exact h3 i (by omega)
   |false=>
    have hni:=qdl.1 hh;refine⟨.next (((j+1:Nat):Int),o' ++[(ts.getD k ae.z).2.2.1.getD j 0]),?_,⟨j+1,_,rfl,by omega,⟨List.mem_append_left _ h1.src,?_,fun y hy=> ?_,fun y hy=> ?_⟩,⟨e++[(ts.getD k ae.z).2.2.1.getD j 0],by rw[he,List.append_assoc]⟩,fun i hi=> ?_⟩,by simp only[Int.toNat_natCast];omega⟩
    ·simp(disch:=omega)only[ub,qfq o' (by omega),hh,Bool.not_false,cond_true,ah,rs]
    ·rw[List.nodup_append];refine⟨h1.nd,by simp,fun a ha b hb=> ?_⟩;rw[List.mem_singleton.1 hb];rintro rfl;exact hni ha
    ·rcases List.mem_append.1 hy with hy|hy
     ·exact h1.bd y hy
     ·rw[List.mem_singleton.1 hy];exact⟨b1,b2⟩
    ·rcases List.mem_append.1 hy with hy|hy
     ·exact h1.snd y hy
     ·rw[List.mem_singleton.1 hy];exact .step (au ae.z hk) hin (h1.snd x (by rw[he];exact List.mem_append_left _ hx)) hmem
    ·by_cases e2:i=j
     ·rw[e2];exact List.mem_append_right _ (List.mem_singleton.2 rfl)
     ·exact List.mem_append_left _ (h3 i (by omega))
 obtain⟨_,h,o',h1,h2,h3,rfl⟩:=hL;exact⟨o',h1,h2,h3,h⟩
theorem j16{o:List Int}(ho:Rl M ts s o){i:Nat}(hi:i<o.length)(b c d:Int):
  ∃o',Rl M ts s o' ∧(∃e,o' =o++e)∧(∀t∈ts,o.getD i 0∈t.2.1→∀y∈t.2.2.1,y∈o')∧qis (i:Int) b ts c d (0,o)=some (.inl o'):=by
 have hL:∃r,qis (i:Int) b ts c d (0,o)=some r∧∃o',Rl M ts s o' ∧(∃e,o' =o++e)∧(∀t∈ts,o.getD i 0∈t.2.1→∀y∈t.2.2.1,y∈o')∧r= .inl o' :=by
  refine og (fun(st:Int×List Int)=>∃(k:Nat) (o' :List Int),st=((k:Int),o')∧k≤ts.length∧Rl M ts s o' ∧(∃e,o' =o++e)∧∀q,q<k→o.getD i 0∈(ts.getD q ae.z).2.1→∀y∈(ts.getD q ae.z).2.2.1,y∈o') (fun st=>ts.length-st.1.toNat) _ _ ⟨0,o,rfl,Nat.zero_le _,ho,⟨[],(List.append_nil _).symm⟩,fun i hi=>by omega⟩ (by unfold many;simp;omega) ?_;rintro _ ⟨k,o',rfl,hk,h1,⟨e,he⟩,h3⟩;have hlen:=h1.len;have hlo:o'.length=o.length+e.length:=by rw[he,List.length_append]
  have hget:o'.getD i 0=o.getD i 0:=by rw[he,List.getD_eq_getElem?_getD,List.getD_eq_getElem?_getD,List.getElem?_append_left hi]
  by_cases e1:k=ts.length
  ·refine⟨.done o',?_,o',h1,⟨e,he⟩,fun t ht=> ?_,rfl⟩
   ·simp(disch:=omega)only[uc,e1,rs]
   ·obtain⟨q,hq,rfl⟩:=t8 ae.z ht;exact h3 q (by omega)
  ·have hkl:k<ts.length:=by omega
   obtain⟨⟨l1,_⟩,_⟩:=hB _ (au ae.z hkl);cases hh:dj (ts.getD k ae.z).2.1 (o.getD i 0)with
   |false=>
    have hni:=qdl.1 hh;refine⟨.next (((k+1:Nat):Int),o'),?_,⟨k+1,o',rfl,by omega,h1,⟨e,he⟩,fun q hq hin=> ?_⟩,by simp only[Int.toNat_natCast];omega⟩
    ·simp(disch:=omega)only[uc,qfq (ts.getD k ae.z).2.1 (by omega),hget,hh,Bool.not_false,cond_true,ah,rs]
    ·by_cases e2:q=k
     ·rw[e2]at hin;exact absurd hin hni
     ·exact h3 q (by omega) hin
   |true=>
    obtain⟨o2,g1,⟨e2,g2⟩,g3,g4⟩:=j15 hM hT hB s hs h1 hkl (x:=o.getD i 0) (by rw[he];exact List.mem_append_left _ (au 0 hi)) (f9.1 hh) (i:Int) b c d;refine⟨.next (((k+1:Nat):Int),o2),?_,⟨k+1,o2,rfl,by omega,g1,⟨e++e2,by rw[g2,he,List.append_assoc]⟩,fun q hq hin y hy=> ?_⟩,by simp only[Int.toNat_natCast];omega⟩
    ·simp(disch:=omega)only[uc,qfq (ts.getD k ae.z).2.1 (by omega),hget,hh,Bool.not_true,g4,ah,rs]
    ·by_cases e3:q=k
     ·rw[e3]at hy;exact g3 y hy
     ·rw[g2];exact List.mem_append_left _ (h3 q (by omega) hin y hy)
 obtain⟨_,h,o',h1,h2,h3,rfl⟩:=hL;exact⟨o',h1,h2,h3,h⟩
theorem jae(a b:Int):∃o,qdp ((M:Int),ts,a,b,()) (s:Int)=some o∧o.length≤M∧(∀x∈o,0≤x)∧∀z:Nat,(z:Int)∈o↔Rc ts (inT false) (te false) s z:=by
 have h0:Rl M ts s [(s:Int)]:=⟨by simp,by simp,fun x hx=>by rw[List.mem_singleton.1 hx];omega,fun x hx=>by rw[List.mem_singleton.1 hx];exact .base⟩;have hL:∃r,qst (M:Int) ts a b (0,[(s:Int)])=some r∧∃o,Rl M ts s o∧(∀x∈o,∀t∈ts,x∈t.2.1→∀y∈t.2.2.1,y∈o)∧r= .inl o:=by
  refine og (fun(st:Int×List Int)=>∃(i:Nat) (o:List Int),st=((i:Int),o)∧i≤o.length∧Rl M ts s o∧∀k,k<i→∀t∈ts,o.getD k 0∈t.2.1→∀y∈t.2.2.1,y∈o) (fun st=>M-st.1.toNat) _ _ ⟨0,_,rfl,Nat.zero_le _,h0,fun k hk=>by omega⟩ (by unfold many;simp;omega) ?_;rintro _ ⟨i,o,rfl,hi,h1,h2⟩;have hlen:=h1.len;by_cases e:i=o.length
  ·refine⟨.done o,?_,o,h1,fun x hx=> ?_,rfl⟩
   ·simp(disch:=omega)only[z7,e,rs]
   ·obtain⟨k,hk,rfl⟩:=t8 0 hx;exact h2 k (by omega)
  ·have hil:i<o.length:=by omega
   obtain⟨o',g1,⟨e',g2⟩,g3,g4⟩:=j16 hM hT hB s hs h1 hil (M:Int) a b;have hl' :o'.length=o.length+e'.length:=by rw[g2,List.length_append]
   refine⟨.next (((i+1:Nat):Int),o'),?_,⟨i+1,o',rfl,by omega,g1,fun k hk t ht hin y hy=> ?_⟩,by simp only[Int.toNat_natCast];omega⟩
   ·simp(disch:=omega)only[z7,g4,rs];rw[ah]
   ·have hget:o'.getD k 0=o.getD k 0:=by rw[g2,List.getD_eq_getElem?_getD,List.getD_eq_getElem?_getD,List.getElem?_append_left (by omega)]
    rw[hget]at hin;by_cases e2:k=i
    ·rw[e2]at hin;exact g3 t ht hin y hy
    ·rw[g2];exact List.mem_append_left _ (h2 k (by omega) t ht hin y hy)
 obtain⟨_,ho,o,h1,h2,rfl⟩:=hL;refine⟨o,?_,h1.len,fun x hx=>(h1.bd x hx).1,fun z=>⟨fun h=>by simpa using h1.snd _ h,fun h=> ?_⟩⟩
 ·unfold qdp;simp only;rw[ho];rfl
 ·induction h with
  |base=>exact h1.src
  | @step t x y ht hx _ hy ih=>
   obtain⟨_,hb1,hb2⟩:=hB t ht;have hx' :0≤x:=(hb1 x hx).1;rw[Int.toNat_of_nonneg hx']at ih;have hy' :0≤y:=(hb2 y hy).1;rw[Int.toNat_of_nonneg hy'];exact h2 x ih t ht hx y hy
end
def jf6(t:ae):ae:=(t.1,t.2.2.1,t.2.1,())
theorem jf1{M:Nat}{ts:List ae}(hT:ts.length≤100)(hB:InB M ts)(m a b:Int):qcy (m,ts,a,b,())=some (m,ts.map jf6,b,a,()):=by
 have hL:∀q1 q2 q3 q4 q5 q6 q7 q8 q9 q10,qnv q1 ts q2 q3 q4 q5 q6 q7 q8 q9 q10 (0,[])=some (.inl (ts.map jf6)):=by
  intro q1 q2 q3 q4 q5 q6 q7 q8 q9 q10;refine cn (fun k=>((k:Int),(ts.take k).map jf6)) ts.length (bc (by omega)) _ (fun k hk=> ?_) ?_ _ rfl
  ·obtain⟨⟨l1,l2⟩,_⟩:=hB _ (au ae.z hk);have hl:((ts.take k).map jf6).length≤100:=by rw[List.length_map,List.length_take];omega
   rw[d7 ts k ae.z hk,List.map_append];simp(disch:=omega)only[u3,List.nil_append,Nat.zero_add,ah,rs];rfl
  ·rw[List.take_length];simp(disch:=omega)only[u3,rs]
 unfold qcy;simp only;rw[hL];rfl
theorem InB.rev{M:Nat}{ts:List ae}(h:InB M ts):InB M (ts.map jf6):=by
 intro t ht;obtain⟨u,hu,rfl⟩:=List.mem_map.1 ht;obtain⟨⟨h1,h2⟩,h3,h4⟩:=h u hu;exact⟨⟨h2,h1⟩,h4,h3⟩
theorem jx4{ts:List ae}{s z:Nat}:Rc (ts.map jf6) (inT false) (te false) s z↔Rc ts (inT true) (te true) s z:=by
 constructor
 ·intro h
  induction h with
  |base=>exact .base
  |step ht hx _ hy ih=>
   obtain⟨u,hu,rfl⟩:=List.mem_map.1 ht;exact .step hu hx ih hy
 ·intro h
  induction h with
  |base=>exact .base
  | @step t x y ht hx _ hy ih=>exact .step (t:=jf6 t) (List.mem_map.2 ⟨t,ht,rfl⟩) hx ih hy
def WF(M:Nat)(ts:List ae)(a b:Int):Prop:=
 a≠b∧(∀t∈ts,a∉t.2.2.1∧b∉t.2.1)∧(∀z,z<M→Rc ts (inT false) (te false) a.toNat z∧Rc ts (inT true) (te true) b.toNat z)∧
  ∀t∈ts,(∃x∈t.2.1,Rc ts (inT false) (te false) a.toNat x.toNat)∧∃x∈t.2.2.1,Rc ts (inT true) (te true) b.toNat x.toNat
theorem jk2(a b:List Int)(ha:a.length≤1000000)(hb:b.length≤1000000):qgo a b=some (a.any (dj b)):=by
 have hL:qwl a b 0=some (bif a.any (dj b)then .inr true else .inl ()):=by
  refine na a 0 (dj b) true (by omega) (fun i hi=> ?_) ?_
  ·simp(disch:=omega)only[qcz,rs];rw[qfq _ hb,ah,ax];exact qqx
  ·simp(disch:=omega)only[qcz,rs]
 unfold qgo;rw[hL];cases a.any (dj b)<;>rfl
theorem qcs{n:bp}(hv:ck n=true)(h:Small n):1≤n.1∧n.1≤40∧n.2.1.length≤60∧(0≤n.2.2.1∧n.2.2.1<n.1)∧(0≤n.2.2.2.1∧n.2.2.2.1<n.1)∧InB n.1.toNat n.2.1:=by
 unfold ck at hv;simp only[Bool.and_eq_true,decide_eq_true_eq,Bool.not_eq_true',List.any_eq_false]at hv;obtain⟨⟨⟨⟨⟨h1,h2⟩,h3⟩,h4⟩,h5⟩,h6⟩:=hv;refine⟨h1,h2,h3,h5,h6,fun t ht=> ?_⟩;have:=h4 t ht;unfold q1y at this;simp only[Bool.or_eq_true,not_or,Bool.not_eq_true',Bool.not_eq_false]at this;have s1:=(qdq.1 this.1.2).1;have s2:=(qdq.1 this.2).1;rw[Int.toNat_of_nonneg (by omega)];exact⟨⟨h.ins t ht,h.outs t ht⟩,s1,s2⟩
theorem jcu{n:bp}(h:Small n):∃b,ll n=some b∧(b=true↔ck n=true∧WF n.1.toNat n.2.1 n.2.2.1 n.2.2.2.1):=by
 unfold ll;rw[qfr h,ax];cases hv:ck n with
 |false=>exact⟨false,rfl,by simp⟩
 |true=>
  obtain⟨p1,p2,p3,⟨p4,p5⟩,⟨p6,p7⟩,hB⟩:=qcs hv h;obtain⟨m,ts,a,b,⟨⟩⟩:=n;simp only at p1 p2 p3 p4 p5 p6 p7 hB⊢;obtain⟨M,rfl⟩:∃M:Nat,m=(M:Int):=⟨m.toNat,by omega⟩;obtain⟨s,rfl⟩:∃s:Nat,a=(s:Int):=⟨a.toNat,by omega⟩;obtain⟨k,rfl⟩:∃k:Nat,b=(k:Int):=⟨b.toNat,by omega⟩;simp only[Int.toNat_natCast,Bool.not_true,cond_false]at hB⊢;by_cases e1:s=k
  ·refine⟨false,by rw[ja0 (by omega)],?_⟩;simp[WF,e1]
  ·rw[q3t (by omega)];have hL0:qj5 ts (ts.length:Int) (M:Int) ts (s:Int) (k:Int) 0=some (bif ts.any (fun t=>dj t.2.2.1 (s:Int)||dj t.2.1 (k:Int))then .inr false else .inl ()):=by
    refine na ts ae.z (fun t=>dj t.2.2.1 (s:Int)||dj t.2.1 (k:Int)) false (by omega) (fun i hi=> ?_) ?_
    ·obtain⟨⟨l1,l2⟩,_⟩:=hB _ (au ae.z hi);simp(disch:=omega)only[tf,o8 (ts.getD i ae.z).2.2.1 (by omega),o8 (ts.getD i ae.z).2.1 (by omega),rs];rw[ah];cases dj (ts.getD i ae.z).2.2.1 (s:Int)<;>cases dj (ts.getD i ae.z).2.1 (k:Int)<;>rfl
    ·simp(disch:=omega)only[tf,rs]
   rw[hL0];cases ha:ts.any (fun t=>dj t.2.2.1 (s:Int)||dj t.2.1 (k:Int))with
   |true=>
    refine⟨false,rfl,?_⟩;obtain⟨t,ht,h1⟩:=List.any_eq_true.1 ha;simp only[Bool.or_eq_true,f9]at h1;refine⟨(fun e=>by cases e),fun e=> ?_⟩;have:=e.2.2.1 t ht;rcases h1 with h1|h1
    ·exact absurd h1 this.1
    ·exact absurd h1 this.2
   |false=>
    have hno:∀t∈ts,(s:Int)∉t.2.2.1∧(k:Int)∉t.2.1:=fun t ht=>by
     have:=List.any_eq_false.1 ha t ht;simp only[Bool.or_eq_true,f9,not_or]at this;exact this
    obtain⟨f,g,r1,r2,r3⟩:=q6y (by omega) (by omega) hB false s (by omega) (s:Int) (k:Int);obtain⟨f',g',q1,q2,q3⟩:=q6y (by omega) (by omega) hB true k (by omega) (s:Int) (k:Int);have cb:∀(N:Nat) (f:Nat→Bool),N≤1000→bn (bL N f) false=some ((bL N f).any fun y=>false==y):=fun N f hN=>qk0 _ (by rw[qox];omega)
    simp only[cond_false,ax,lj];have hL1:qj6 [false,true] 2 (M:Int) ts (s:Int) (k:Int) 0=some (bif (List.range 2).all (fun i=>bif i==0 then !(bL M f).any (fun y=>false==y)&& !(bL ts.length g).any (fun y=>false==y)else !(bL M f').any (fun y=>false==y)&& !(bL ts.length g').any (fun y=>false==y))then .inl ()else .inr false):=by
     have st0:∀{R:Type} (nx:Int→Option R) (dn:Unit→Option R) (rt:Bool→Option R),th [false,true] 2 (M:Int) ts (s:Int) (k:Int) ((0:Nat):Int) nx dn rt=(bif (!(bL M f).any (fun y=>false==y)&& !(bL ts.length g).any (fun y=>false==y))then nx ((0+1:Nat):Int)else rt false):=by
      intro R nx dn rt;show(bnd (nc ((M:Int),ts,(s:Int),(k:Int),()) (s:Int) false) _)=_;rw[r1];simp only[ax,cb M f (by omega),cb ts.length g (by omega)];cases(bL M f).any (fun y=>false==y)<;>cases(bL ts.length g).any (fun y=>false==y)<;>rfl
     have st1:∀{R:Type} (nx:Int→Option R) (dn:Unit→Option R) (rt:Bool→Option R),th [false,true] 2 (M:Int) ts (s:Int) (k:Int) ((1:Nat):Int) nx dn rt=(bif (!(bL M f').any (fun y=>false==y)&& !(bL ts.length g').any (fun y=>false==y))then nx ((1+1:Nat):Int)else rt false):=by
      intro R nx dn rt;show(bnd (nc ((M:Int),ts,(s:Int),(k:Int),()) (k:Int) true) _)=_;rw[q1];simp only[ax,cb M f' (by omega),cb ts.length g' (by omega)];cases(bL M f').any (fun y=>false==y)<;>cases(bL ts.length g').any (fun y=>false==y)<;>rfl
     refine rb (fun i:Nat=>(i:Int)) 2 (bc (by omega)) _ () false ?_ ?_ rfl
     ·intro i hi hp;have:i=0∨i=1:=by omega
      rcases this with rfl|rfl
      ·refine(st0 _ _ _).trans ?_;simp only[BEq.rfl,cond_true]at hp;rw[hp];rfl
      ·refine(st1 _ _ _).trans ?_;simp only[show((1:Nat)==0)=false from rfl,cond_false]at hp;rw[hp];rfl
     ·intro i hi hp;have:i=0∨i=1:=by omega
      rcases this with rfl|rfl
      ·refine(st0 _ _ _).trans ?_;simp only[BEq.rfl,cond_true]at hp;rw[hp];rfl
      ·refine(st1 _ _ _).trans ?_;simp only[show((1:Nat)==0)=false from rfl,cond_false]at hp;rw[hp];rfl
    have ev:(List.range 2).all (fun i=>bif i==0 then !(bL M f).any (fun y=>false==y)&& !(bL ts.length g).any (fun y=>false==y)else !(bL M f').any (fun y=>false==y)&& !(bL ts.length g').any (fun y=>false==y))=((!(bL M f).any (fun y=>false==y)&& !(bL ts.length g).any (fun y=>false==y))&&((!(bL M f').any (fun y=>false==y)&& !(bL ts.length g').any (fun y=>false==y))&&true)):=rfl;rw[ev]at hL1;refine⟨_,by rw[hL1,ax];exact qoy,?_⟩;simp only[Bool.and_true,Bool.and_eq_true,Bool.not_eq_true',joa];unfold WF;simp only[Int.toNat_natCast];constructor
    ·rintro⟨⟨h1,h2⟩,h3,h4⟩;refine⟨trivial,by omega,hno,fun z hz=>⟨(r2 z).1 (h1 z hz),(q2 z).1 (h3 z hz)⟩,fun t ht=> ?_⟩;obtain⟨i,hi,rfl⟩:=t8 ae.z ht;exact⟨(r3 i hi).1 (h2 i hi),(q3 i hi).1 (h4 i hi)⟩
    ·rintro⟨_,_,_,h3,h4⟩;exact⟨⟨fun z hz=>(r2 z).2 (h3 z hz).1,fun i hi=>(r3 i hi).2 (h4 _ (au ae.z hi)).1⟩,fun z hz=>(q2 z).2 (h3 z hz).2,fun i hi=>(q3 i hi).2 (h4 _ (au ae.z hi)).2⟩
theorem jcw{n:bp}(h:Small n):∃b,ua n=some b∧(b=true↔ck n=true∧WF n.1.toNat n.2.1 n.2.2.1 n.2.2.2.1):=by
 unfold ua;rw[q1n h,ax];cases hv:ck n with
 |false=>exact⟨false,rfl,by simp⟩
 |true=>
  obtain⟨p1,p2,p3,⟨p4,p5⟩,⟨p6,p7⟩,hB⟩:=qcs hv h;obtain⟨m,ts,a,b,⟨⟩⟩:=n;simp only at p1 p2 p3 p4 p5 p6 p7 hB⊢;obtain⟨M,rfl⟩:∃M:Nat,m=(M:Int):=⟨m.toNat,by omega⟩;obtain⟨s,rfl⟩:∃s:Nat,a=(s:Int):=⟨a.toNat,by omega⟩;obtain⟨k,rfl⟩:∃k:Nat,b=(k:Int):=⟨b.toNat,by omega⟩;simp only[Int.toNat_natCast,Bool.not_true,cond_false]at hB⊢;by_cases e1:s=k
  ·refine⟨false,by rw[ja0 (by omega)],?_⟩;simp[WF,e1]
  ·rw[q3t (by omega),jf1 (by omega) hB];obtain⟨fr,f1,f2,f3,f4⟩:=jae (M:=M) (ts:=ts) (by omega) (by omega) hB s (by omega) (s:Int) (k:Int);obtain⟨bk,g1,g2,g3,g4⟩:=jae (M:=M) (ts:=ts.map jf6) (by omega) (by rw[List.length_map];omega) hB.rev k (by omega) (k:Int) (s:Int);have g4:∀z:Nat,(z:Int)∈bk↔Rc ts (inT true) (te true) k z:=fun z=>(g4 z).trans jx4
   rw[f1];simp only[ax];rw[g1];simp only[ax];have hL0:qka fr bk (M:Int) ts (s:Int) (k:Int) 0=some (bif (List.range M).all (fun z=>dj fr (z:Int)&&dj bk (z:Int))then .inl ()else .inr false):=by
    refine rb (fun i:Nat=>(i:Int)) M (bc (by omega)) _ () false ?_ ?_ ?_
    ·intro i hi hp;simp only[Bool.and_eq_true]at hp;simp(disch:=omega)only[mw,qfq fr (by omega),qfq bk (by omega),hp.1,hp.2,Bool.not_true,ah,rs]
    ·intro i hi hp;simp(disch:=omega)only[mw,qfq fr (by omega),qfq bk (by omega),rs];cases h1:dj fr (i:Int)<;>cases h2:dj bk (i:Int)<;>first|rfl|(rw[h1,h2]at hp;cases hp)
    ·simp(disch:=omega)only[mw,rs]
   have hL1:qkb fr bk (M:Int) ts (s:Int) (k:Int) 0=some (bif ts.any (fun t=>dj t.2.2.1 (s:Int)||dj t.2.1 (k:Int)|| !t.2.1.any (dj fr)|| !t.2.2.1.any (dj bk))then .inr false else .inl ()):=by
    refine na ts ae.z (fun t=>dj t.2.2.1 (s:Int)||dj t.2.1 (k:Int)|| !t.2.1.any (dj fr)|| !t.2.2.1.any (dj bk)) false (by omega) (fun i hi=> ?_) ?_
    ·obtain⟨⟨l1,l2⟩,_⟩:=hB _ (au ae.z hi);simp(disch:=omega)only[tj,qfq (ts.getD i ae.z).2.2.1 (by omega),qfq (ts.getD i ae.z).2.1 (by omega),jk2 (ts.getD i ae.z).2.1 fr (by omega) (by omega),jk2 (ts.getD i ae.z).2.2.1 bk (by omega) (by omega),rs];rw[ah];cases dj (ts.getD i ae.z).2.2.1 (s:Int)<;>cases dj (ts.getD i ae.z).2.1 (k:Int)<;>cases(ts.getD i ae.z).2.1.any (dj fr)<;>cases(ts.getD i ae.z).2.2.1.any (dj bk)<;>rfl
    ·simp(disch:=omega)only[tj,rs]
   refine⟨(List.range M).all (fun z=>dj fr (z:Int)&&dj bk (z:Int))&& !ts.any (fun t=>dj t.2.2.1 (s:Int)||dj t.2.1 (k:Int)|| !t.2.1.any (dj fr)|| !t.2.2.1.any (dj bk)),?_,?_⟩
   ·rw[hL0];cases(List.range M).all (fun z=>dj fr (z:Int)&&dj bk (z:Int))with
    |false=>rfl
    |true=>
     simp only[cond_true,ax,lj,Bool.true_and];rw[hL1];cases ts.any (fun t=>dj t.2.2.1 (s:Int)||dj t.2.1 (k:Int)|| !t.2.1.any (dj fr)|| !t.2.2.1.any (dj bk))<;>rfl
   ·have hq:ts.any (fun t=>dj t.2.2.1 (s:Int)||dj t.2.1 (k:Int)|| !t.2.1.any (dj fr)|| !t.2.2.1.any (dj bk))=false↔∀t∈ts,((s:Int)∉t.2.2.1∧(k:Int)∉t.2.1)∧(∃x∈t.2.1,x∈fr)∧∃y∈t.2.2.1,y∈bk:=by
     rw[List.any_eq_false];refine forall_congr' fun t=>forall_congr' fun _=> ?_
     rw[Bool.not_eq_true,Bool.or_eq_false_iff,Bool.or_eq_false_iff,Bool.or_eq_false_iff,qdl,qdl,Bool.not_eq_false',Bool.not_eq_false',List.any_eq_true,List.any_eq_true];simp only[f9];exact⟨fun⟨⟨⟨a,b⟩,c⟩,d⟩=>⟨⟨a,b⟩,c,d⟩,fun⟨⟨a,b⟩,c,d⟩=>⟨⟨⟨a,b⟩,c⟩,d⟩⟩
    rw[Bool.and_eq_true,Bool.not_eq_true',hq,List.all_eq_true];unfold WF;simp only[Int.toNat_natCast,List.mem_range,Bool.and_eq_true,f9];constructor
    ·rintro⟨h1,h2⟩;refine⟨trivial,by omega,fun t ht=>(h2 t ht).1,fun z hz=>⟨(f4 z).1 (h1 z hz).1,(g4 z).1 (h1 z hz).2⟩,fun t ht=> ?_⟩;obtain⟨_,⟨x,hx,hx'⟩,⟨y,hy,hy'⟩⟩:=h2 t ht;refine⟨⟨x,hx,(f4 _).1 (by rw[Int.toNat_of_nonneg (f3 x hx')];exact hx')⟩,⟨y,hy,(g4 _).1 (by rw[Int.toNat_of_nonneg (g3 y hy')];exact hy')⟩⟩
    ·rintro⟨_,_,h2,h3,h4⟩;refine⟨fun z hz=>⟨(f4 z).2 (h3 z hz).1,(g4 z).2 (h3 z hz).2⟩,fun t ht=> ?_⟩;obtain⟨⟨x,hx,hx'⟩,⟨y,hy,hy'⟩⟩:=h4 t ht;obtain⟨_,hb1,hb2⟩:=hB t ht;refine⟨h2 t ht,⟨x,hx,?_⟩,⟨y,hy,?_⟩⟩
     ·have:=(f4 _).2 hx';rwa[Int.toNat_of_nonneg (hb1 x hx).1]at this
     ·have:=(g4 _).2 hy';rwa[Int.toNat_of_nonneg (hb2 y hy).1]at this
theorem jdy{n:bp}(h:Small n):∃b,ll n=some b∧ua n=some b∧(b=true↔ck n=true∧WF n.1.toNat n.2.1 n.2.2.1 n.2.2.2.1):=by
 obtain⟨b,h1,h2⟩:=jcu h;obtain⟨b',h3,h4⟩:=jcw h;have:b' =b:=by rw[Bool.eq_iff_iff,h2,h4]
 exact⟨b,h1,by rw[h3,this],h2⟩
end Go.Proofs.YtclbndfjhjladaaGreat
