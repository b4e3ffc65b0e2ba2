/-
  Freechoice: the classes of a net, by uniting (the program) and by spreading (the reference).
-/
import Derived.Test.YtclbndfjhjladaaGreatZ4G3
set_option linter.all false
namespace Go.Proofs.YtclbndfjhjladaaGreat
open Go.K Go.M
def jcr(out:Bool)(t:af):List Int:=bif out then t.2.1++t.2.2.1 else t.2.1
def edT(M t:Nat)(l:List Int):List (Nat×Nat):=l.map fun x=>(x.toNat,M+t)
def edA(M:Nat)(out:Bool)(ts:List af)(i:Nat):List (Nat×Nat):=(List.range i).flatMap fun t=>edT M t (jcr out (ts.getD t af.z))
theorem jbi(M:Nat)(out:Bool)(ts:List af)(i:Nat):edA M out ts (i+1)=edA M out ts i++edT M i (jcr out (ts.getD i af.z)):=by
 unfold edA;rw[List.range_succ,List.flatMap_append];simp
theorem jmw(M t:Nat)(l:List Int)(i:Nat)(h:i<l.length):edT M t (l.take (i+1))=edT M t (l.take i)++[((l.getD i 0).toNat,M+t)]:=by
 unfold edT;rw[ct l i 0 h,List.map_append];rfl
theorem jyp(es:List (Nat×Nat)):∀{c:Nat→Nat},Rep c→Rep (es.foldl mrg c):=by
 induction es with
 |nil=>intro c h;exact h
 |cons e es ih=>intro c h;exact ih (h.mrg e)
theorem jml(a b:List (Nat×Nat)):s9 (a++b)=b.foldl mrg (s9 a):=by unfold s9;rw[List.foldl_append]
section
variable {N M : Nat} (hN : N ≤ 1000)
include hN
theorem jil{E R:Type}{step:Int×Int×List Int→Option (LR (Int×Int×List Int) E R)}{t:Nat}(ht:M+t<N)(l:List Int)(hl:l.length≤1000)(hb:∀x∈l,0≤x∧x<(M:Int))(fin:Int→List Int→E)
  (h:∀(j:Nat) (L:List Int),j<l.length→step ((j:Int),(M:Int),L)=bnd (cm (l.getD j 0) (t:Int) (M:Int) L) fun r=>ah (decide (r.2.length=L.length)) (some (.next (((j+1:Nat):Int),r.1,r.2))))
  (hd:∀L,step ((l.length:Int),(M:Int),L)=some (.done (fin (M:Int) L))) {c p:Nat→Nat} (hc:Rep c) (hp:UF p c):∃p',UF p' ((edT M t l).foldl mrg c)∧ar step (0,(M:Int),pL N p)=some (.inl (fin (M:Int) (pL N p'))):=by
 have hL:∃o,ar step (0,(M:Int),pL N p)=some o∧∃p',UF p' ((edT M t l).foldl mrg c)∧o= .inl (fin (M:Int) (pL N p')):=by
  refine da (fun(s:Int×Int×List Int)=>∃(j:Nat) (q:Nat→Nat),s=((j:Int),(M:Int),pL N q)∧j≤l.length∧UF q ((edT M t (l.take j)).foldl mrg c)) (fun s=>l.length-s.1.toNat) _ _ ⟨0,p,rfl,Nat.zero_le _,hp⟩ (by unfold many;simp;omega) ?_;rintro _ ⟨j,q,rfl,hj,hq⟩;by_cases e:j=l.length
  ·subst e;exact⟨.done (fin (M:Int) (pL N q)),hd _,q,by rwa[List.take_length]at hq,rfl⟩
  ·have hjl:j<l.length:=by omega
   obtain⟨h1,h2⟩:=hb _ (ao 0 hjl);obtain⟨q',hq',e'⟩:=jzc hN (jyp (edT M t (l.take j)) hc) (M:Int) hq (by omega) (x:=(l.getD j 0).toNat) (t:=t) (by omega) (by simpa using ht);rw[Int.toNat_of_nonneg h1]at e';refine⟨.next (((j+1:Nat):Int),(M:Int),pL N q'),?_,⟨j+1,q',rfl,by omega,?_⟩,?_⟩
   ·rw[h j _ hjl,e'];simp only[au,qcl,decide_true,ls]
   ·rw[jmw M t l j hjl,List.foldl_append];simpa using hq'
   ·simp only[Int.toNat_natCast];omega
 obtain⟨_,ho,p',hp',rfl⟩:=hL;exact⟨p',hp',ho⟩
end
def InB(M:Nat)(ts:List af):Prop:=∀t∈ts,(t.2.1.length≤60∧t.2.2.1.length≤60)∧(∀x∈t.2.1,0≤x∧x<(M:Int))∧∀x∈t.2.2.1,0≤x∧x<(M:Int)
theorem InB.lst{M:Nat}{ts:List af}(h:InB M ts){i:Nat}(hi:i<ts.length)(out:Bool):(jcr out (ts.getD i af.z)).length≤120∧∀x∈jcr out (ts.getD i af.z),0≤x∧x<(M:Int):=by
 obtain⟨⟨h1,h2⟩,h3,h4⟩:=h _ (ao af.z hi);cases out with
 |false=>exact⟨by show(ts.getD i af.z).2.1.length≤120;omega,h3⟩
 |true=>
  refine⟨by show((ts.getD i af.z).2.1++(ts.getD i af.z).2.2.1).length≤120;rw[List.length_append];omega,fun x hx=> ?_⟩;rcases List.mem_append.1 (show x∈(ts.getD i af.z).2.1++(ts.getD i af.z).2.2.1 from hx)with hx|hx
  ·exact h3 x hx
  ·exact h4 x hx
section
variable {M : Nat} {ts : List af} (hM : M ≤ 100) (hT : ts.length ≤ 100) (hB : InB M ts)
include hM hT hB
theorem ji8(a b c:Int):∃p,UF p (s9 (edA M false ts ts.length))∧ry ts (ts.length:Int) a ts b c (0,(M:Int),pL (M+ts.length) id)=some (.inl ((M:Int),pL (M+ts.length) p)):=by
 have hL:∃o,ry ts (ts.length:Int) a ts b c (0,(M:Int),pL (M+ts.length) id)=some o∧∃p,UF p (s9 (edA M false ts ts.length))∧o= .inl ((M:Int),pL (M+ts.length) p):=by
  refine da (fun(s:Int×Int×List Int)=>∃(j:Nat) (q:Nat→Nat),s=((j:Int),(M:Int),pL (M+ts.length) q)∧j≤ts.length∧UF q (s9 (edA M false ts j))) (fun s=>ts.length-s.1.toNat) _ _ ⟨0,id,rfl,Nat.zero_le _,UF.id⟩ (by unfold many;simp;omega) ?_;rintro _ ⟨j,q,rfl,hj,hq⟩;by_cases e:j=ts.length
  ·subst e;refine⟨.done ((M:Int),pL (M+ts.length) q),?_,q,hq,rfl⟩;simp(disch:=omega)only[jk,rs]
  ·have hjl:j<ts.length:=by omega
   obtain⟨h1,h2⟩:=hB.lst hjl false;have hl60:=(hB _ (ao af.z hjl)).1.1;have s1:∀(k:Nat) (L:List Int),k<(ts.getD j af.z).2.1.length→c8 (R:=LR (Int×Int×List Int) (Int×List Int) (List ae)) (j:Int) ts (ts.length:Int) (j:Int) (ts.getD j af.z).2.1 ((ts.getD j af.z).2.1.length:Int) a ts b c (k:Int) (M:Int) L (fun a' =>some (.next a')) (fun e=>some (.done e)) (fun r=>some (.ret r))=bnd (cm ((ts.getD j af.z).2.1.getD k 0) (j:Int) (M:Int) L) fun r=>ah (decide (r.2.length=L.length)) (some (.next (((k+1:Nat):Int),r.1,r.2))):=fun k L hk=>by
    simp(disch:=omega)only[c8,ag,rs]
   have s2:∀L:List Int,c8 (R:=LR (Int×Int×List Int) (Int×List Int) (List ae)) (j:Int) ts (ts.length:Int) (j:Int) (ts.getD j af.z).2.1 ((ts.getD j af.z).2.1.length:Int) a ts b c ((ts.getD j af.z).2.1.length:Int) (M:Int) L (fun a' =>some (.next a')) (fun e=>some (.done e)) (fun r=>some (.ret r))=some (.done ((M:Int),L)):=fun L=>by
    simp(disch:=omega)only[c8,rs]
   obtain⟨q',hq',e'⟩:=jil (N:=M+ts.length) (M:=M) (by omega) (step:=fun(x:Int×Int×List Int)=>c8 (R:=LR (Int×Int×List Int) (Int×List Int) (List ae)) (j:Int) ts (ts.length:Int) (j:Int) (ts.getD j af.z).2.1 ((ts.getD j af.z).2.1.length:Int) a ts b c x.1 x.2.1 x.2.2 (fun a' =>some (.next a')) (fun e=>some (.done e)) (fun r=>some (.ret r))) (t:=j) (by omega) (ts.getD j af.z).2.1 (by omega) h2 (fun x y=>(x,y)) s1 s2 (qyr (edA M false ts j)) hq;refine⟨.next (((j+1:Nat):Int),(M:Int),pL (M+ts.length) q'),?_,⟨j+1,q',rfl,by omega,?_⟩,?_⟩
   ·simp(disch:=omega)only[jk,rs];have e2:qb0 (j:Int) ts (ts.length:Int) (j:Int) (ts.getD j af.z).2.1 ((ts.getD j af.z).2.1.length:Int) a ts b c (0,(M:Int),pL (M+ts.length) q)=_:=e';rw[e2];simp(disch:=omega)only[rs];rw[ag]
   ·rw[jbi,jml];exact hq'
   ·simp only[Int.toNat_natCast];omega
 obtain⟨_,ho,p',hp',rfl⟩:=hL;exact⟨p',hp',ho⟩
end
def qey(f:Nat→Bool):Nat→Nat
 |0=>0
 |n+1=>qey f n+(if f n=true then 0 else 1)
theorem quc{f g:Nat→Bool}(h:∀z,f z=true→g z=true):∀n,qey g n≤qey f n
 |0=>Nat.le_refl _
 |n+1=>by
  have:=quc h n;have:=h n;unfold qey;split<;>split<;>first|omega|(rename_i h1 h2;exact absurd (h n h2) h1)
theorem jap{f g:Nat→Bool}(h:∀z,f z=true→g z=true):∀{n z:Nat},z<n→f z=false→g z=true→qey g n<qey f n
 |0,_,hz,_,_=>by omega
 |n+1,z,hz,h1,h2=>by
  unfold qey;by_cases e:z=n
  ·subst e;have:=quc h z;rw[if_pos h2,if_neg (by simp[h1])];omega
  ·have:=jap h (n:=n) (z:=z) (by omega) h1 h2;have:=h n;split<;>split<;>first|omega|(rename_i h3 h4;exact absurd (h n h4) h3)
theorem jja(f:Nat→Bool):∀n,qey f n≤n
 |0=>Nat.le_refl _
 |n+1=>by have:=jja f n;unfold qey;split<;>omega
def qbb(f:Nat→Bool)(i:Nat):Nat→Bool:=fun z=>if z=i then true else f z
abbrev bL(N:Nat)(f:Nat→Bool):List Bool:=bh N f
theorem pf(N:Nat)(f:Nat→Bool):(bL N f).length=N:=bn _ _
theorem qij{N:Nat}{f:Nat→Bool}{i:Nat}(h:i<N):(bL N f).getD i false=f i:=di h
theorem jiy{N:Nat}{f:Nat→Bool}(i:Nat):(bL N f).set i true=bL N (qbb f i):=ml
structure Swp (N : Nat) (c : Nat → Nat) (r : Nat) (es : List (Nat × Nat)) (m : Bool) (f : Nat → Bool) (m' : Bool) (f' : Nat → Bool) : Prop where
 up : ∀ z, f z = true → f' z = true
 cls : ∀ z, f' z = true → c z = r
 no : m' = false → m = false ∧ f' = f ∧ ∀ e ∈ es, f e.1 = f e.2
 yes : m' = true → m = true ∨ qey f' N < qey f N
theorem Swp.refl{N:Nat}{c:Nat→Nat}{r:Nat}{m:Bool}{f:Nat→Bool}(h:∀z,f z=true→c z=r):Swp N c r [] m f m f:=
 ⟨fun _ h=>h,h,fun e=>⟨e,rfl,fun e he=>by cases he⟩,fun e=> .inl e⟩
theorem Swp.trans{N:Nat}{c:Nat→Nat}{r:Nat}{es es' :List (Nat×Nat)}{m m' m'' :Bool}{f f' f'' :Nat→Bool}(h:Swp N c r es m f m' f')(h' :Swp N c r es' m' f' m'' f''):Swp N c r (es++es') m f m'' f'' :=by
 refine⟨fun z hz=>h'.up z (h.up z hz),h'.cls,fun e=> ?_,fun e=> ?_⟩
 ·obtain⟨a1,a2,a3⟩:=h'.no e;obtain⟨b1,b2,b3⟩:=h.no a1;subst b2;refine⟨b1,a2,fun e he=> ?_⟩;rcases List.mem_append.1 he with he|he
  ·exact b3 e he
  ·exact a3 e he
 ·have l1:=quc h.up N;have l2:=quc h'.up N;rcases h'.yes e with e|e
  ·rcases h.yes e with e|e
   ·exact .inl e
   ·exact .inr (by omega)
  ·exact .inr (by omega)
theorem Swp.one{N:Nat}{c:Nat→Nat}{r x y:Nat}{m:Bool}{f:Nat→Bool}(hf:∀z,f z=true→c z=r)(hc:c x=c y)(hx:x<N)(hy:y<N):
  Swp N c r [(x,y)] m f (if f x=f y then m else true) (if f x=f y then f else qbb (qbb f x) y):=by
 by_cases e:f x=f y
 ·rw[if_pos e,if_pos e];exact⟨fun _ h=>h,hf,fun e' =>⟨e',rfl,fun d hd=>by rw[List.mem_singleton.1 hd];exact e⟩,fun e' => .inl e'⟩
 ·rw[if_neg e,if_neg e];have hup:∀z,f z=true→qbb (qbb f x) y z=true:=fun z hz=>by unfold qbb;split;rfl;split;rfl;exact hz
  refine⟨hup,fun z hz=> ?_,fun e' =>(by cases e'),fun _=> .inr ?_⟩
  ·have hr:c x=r:=by
    cases hx:f x with
    |true=>exact hf x hx
    |false=>
     cases hy:f y with
     |true=>rw[hc];exact hf y hy
     |false=>exact absurd (hx.trans hy.symm) e
   unfold qbb at hz;split at hz
   ·rename_i h1;rw[h1,←hc];exact hr
   ·split at hz
    ·rename_i h1;rw[h1];exact hr
    ·exact hf z hz
  ·cases h1:f x with
   |false=>exact jap hup hx h1 (by unfold qbb;split;rfl;rw[if_pos rfl])
   |true=>
    cases h2:f y with
    |false=>exact jap hup hy h2 (by unfold qbb;rw[if_pos rfl])
    |true=>exact absurd (h1.trans h2.symm) e
section
variable {M : Nat} {ts : List af} (hM : M ≤ 100) (hT : ts.length ≤ 100) (hB : InB M ts) {out : Bool} {c : Nat → Nat} (hcp : ∀ e ∈ edA M out ts ts.length, c e.1 = c e.2) (r : Nat)
include hM hT hB hcp
theorem j0m{i:Nat}(hi:i<ts.length){e:Nat×Nat}(he:e∈edT M i (jcr out (ts.getD i af.z))):e∈edA M out ts ts.length:=List.mem_flatMap.2 ⟨i,List.mem_range.2 hi,he⟩
theorem jq7{i:Nat}(hi:i<ts.length)(ob:Bool)(a b:Int)(m:Bool)(f:Nat→Bool)(hf:∀z,f z=true→c z=r):
  ∃m' f',Swp (M+ts.length) c r (edT M i (jcr out (ts.getD i af.z))) m f m' f' ∧qh1 ob (i:Int) (jcr out (ts.getD i af.z)) (M:Int) ts a b (m,0,bL (M+ts.length) f)=some (.inl (m',bL (M+ts.length) f')):=by
 obtain⟨hl,hb⟩:=hB.lst hi out;generalize hll:jcr out (ts.getD i af.z)=l at hl hb;have hc:∀x∈l,c x.toNat=c (M+i):=fun x hx=>hcp (x.toNat,M+i) (j0m hM hT hB hcp hi (by rw[hll];exact List.mem_map.2 ⟨x,hx,rfl⟩))
 have hL:∃o,qh1 ob (i:Int) l (M:Int) ts a b (m,0,bL (M+ts.length) f)=some o∧∃m' f',Swp (M+ts.length) c r (edT M i l) m f m' f' ∧o= .inl (m',bL (M+ts.length) f'):=by
  refine da (fun(s:Bool×Int×List Bool)=>∃(m' :Bool) (j:Nat) (g:Nat→Bool),s=(m',(j:Int),bL (M+ts.length) g)∧j≤l.length∧Swp (M+ts.length) c r (edT M i (l.take j)) m f m' g) (fun s=>l.length-s.2.1.toNat) _ _ ⟨m,0,f,rfl,Nat.zero_le _,by rw[List.take_zero];exact Swp.refl hf⟩ (by unfold many;simp;omega) ?_;rintro _ ⟨m',j,g,rfl,hj,hg⟩;by_cases e:j=l.length
  ·subst e;rw[List.take_length]at hg;refine⟨.done (m',bL (M+ts.length) g),?_,m',g,hg,rfl⟩;simp(disch:=omega)only[xh,rs]
  ·have hjl:j<l.length:=by omega
   obtain⟨h1,h2⟩:=hb _ (ao 0 hjl);have h3:=hc _ (ao 0 hjl);have e1:((l.getD j 0).toNat:Int)=l.getD j 0:=Int.toNat_of_nonneg h1;have e2:Int.toNat ((M:Int)+(i:Int))=M+i:=by omega
   have hone:=Swp.one (N:=M+ts.length) (m:=m') hg.cls h3 (by omega) (by omega);have hnew:=hg.trans hone;rw[←jmw M i l j hjl]at hnew;refine⟨.next (_,((j+1:Nat):Int),bL (M+ts.length) _),?_,⟨_,j+1,_,rfl,by omega,hnew⟩,?_⟩
   ·simp(disch:=omega)only[xh,e2,pf,qij,jiy,rs];by_cases e3:g (l.getD j 0).toNat=g (M+i)
    ·rw[if_pos e3,if_pos e3,e3];simp only[beq_self_eq_true,cond_true,ag]
    ·rw[if_neg e3,if_neg e3];have:(g (l.getD j 0).toNat==g (M+i))=false:=by simpa using e3
     rw[this];simp only[cond_false,ag]
   ·simp only[Int.toNat_natCast];omega
 obtain⟨_,ho,m',f',hs,rfl⟩:=hL;exact⟨m',f',hs,ho⟩
theorem jq8(a b:Int)(m:Bool)(f:Nat→Bool)(hf:∀z,f z=true→c z=r):
  ∃m' f',Swp (M+ts.length) c r (edA M out ts ts.length) m f m' f' ∧qh2 out (M:Int) ts a b (m,0,bL (M+ts.length) f)=some (.inl (m',bL (M+ts.length) f')):=by
 have hL:∃o,qh2 out (M:Int) ts a b (m,0,bL (M+ts.length) f)=some o∧∃m' f',Swp (M+ts.length) c r (edA M out ts ts.length) m f m' f' ∧o= .inl (m',bL (M+ts.length) f'):=by
  refine da (fun(s:Bool×Int×List Bool)=>∃(m' :Bool) (j:Nat) (g:Nat→Bool),s=(m',(j:Int),bL (M+ts.length) g)∧j≤ts.length∧Swp (M+ts.length) c r (edA M out ts j) m f m' g) (fun s=>ts.length-s.2.1.toNat) _ _ ⟨m,0,f,rfl,Nat.zero_le _,Swp.refl hf⟩ (by unfold many;simp;omega) ?_;rintro _ ⟨m',j,g,rfl,hj,hg⟩;by_cases e:j=ts.length
  ·subst e;refine⟨.done (m',bL (M+ts.length) g),?_,m',g,hg,rfl⟩;simp(disch:=omega)only[qy,rs]
  ·have hjl:j<ts.length:=by omega
   obtain⟨⟨l1,l2⟩,_⟩:=hB _ (ao af.z hjl);obtain⟨m2,f2,hs,he⟩:=jq7 hM hT hB hcp r hjl out a b m' g hg.cls;have hnew:=hg.trans hs;rw[←jbi]at hnew;refine⟨.next (m2,((j+1:Nat):Int),bL (M+ts.length) f2),?_,⟨m2,j+1,f2,rfl,by omega,hnew⟩,?_⟩
   ·have hT1:qaq out m' (j:Int) (jcr out (ts.getD j af.z)) (M:Int) ts a b (bL (M+ts.length) g)=some (.inl (m2,bL (M+ts.length) f2)):=by
     unfold qaq qfi;rw[he];rfl
    unfold jcr at hT1;have l3:(([]:List Int)++(ts.getD j af.z).2.1).length=(ts.getD j af.z).2.1.length:=rfl;cases out with
    |false=>
     simp(disch:=omega)only[qy,List.nil_append,cond_false,rs];simp only[cond_false]at hT1;rw[hT1];simp(disch:=omega)only[rs];rw[ag]
    |true=>
     simp(disch:=omega)only[qy,List.nil_append,cond_true,rs];simp only[cond_true]at hT1;rw[hT1];simp(disch:=omega)only[rs];rw[ag]
   ·simp only[Int.toNat_natCast];omega
 obtain⟨_,ho,m',f',hs,rfl⟩:=hL;exact⟨m',f',hs,ho⟩
end
theorem jie{M:Nat}{ts:List af}(hM:M≤100)(hT:ts.length≤100)(hB:InB M ts)(out:Bool){i:Nat}(hi:i<M+ts.length)(a b:Int):
  uq ((M:Int),ts,a,b,()) (i:Int) out=some (bL (M+ts.length) fun z=>decide (s9 (edA M out ts ts.length) z=s9 (edA M out ts ts.length) i)):=by
 generalize hcd:s9 (edA M out ts ts.length)=c;have hcp:∀e∈edA M out ts ts.length,c e.1=c e.2:=fun e he=>by rw[←hcd];exact jwr he
 have hL:∃o,qtw out (M:Int) ts a b (true,bL (M+ts.length) (qbb (fun _=>false) i))=some o∧o= .inl (bL (M+ts.length) fun z=>decide (c z=c i)):=by
  refine da (fun(s:Bool×List Bool)=>∃(m:Bool) (f:Nat→Bool),s=(m,bL (M+ts.length) f)∧f i=true∧(∀z,f z=true→c z=c i)∧(m=false→∀e∈edA M out ts ts.length,f e.1=f e.2)) (fun s=>2*qey (fun z=>s.2.getD z false) (M+ts.length)+s.1.toNat) _ _ ⟨true,_,rfl,by unfold qbb;rw[if_pos rfl],fun z hz=> ?_,fun e=>by cases e⟩ ?_ ?_
  ·unfold qbb at hz;split at hz
   ·rename_i e;rw[e]
   ·cases hz
  ·have:=jja (fun z=>(bL (M+ts.length) (qbb (fun _=>false) i)).getD z false) (M+ts.length);unfold many;simp only[Bool.toNat_true];omega
  ·rintro _ ⟨m,f,rfl,hfi,hf,hm⟩;have ecnt:∀g:Nat→Bool,qey (fun z=>(bL (M+ts.length) g).getD z false) (M+ts.length)=qey g (M+ts.length):=by
    intro g;have:∀n,n≤M+ts.length→qey (fun z=>(bL (M+ts.length) g).getD z false) n=qey g n:=by
     intro n
     induction n with
     |zero=>intro _;rfl
     |succ n ih=>
      intro hn;unfold qey;rw[ih (by omega)];simp only[qij (f:=g) (show n<M+ts.length by omega)]
    exact this _ (Nat.le_refl _)
   cases m with
   |false=>
    refine⟨.done (bL (M+ts.length) f),rfl,?_⟩;congr 1;refine bp fun z _=> ?_
    rw[Bool.eq_iff_iff,decide_eq_true_iff];refine⟨hf z,fun hz=> ?_⟩;rw[←hcd]at hz;exact(jpu (S:=fun z=>f z=true) (fun e he=>by rw[hm rfl e he]) hz).2 hfi
   |true=>
    obtain⟨m',f',hs,he⟩:=jq8 hM hT hB hcp (c i) a b false f hf;refine⟨.next (m',bL (M+ts.length) f'),?_,⟨m',f',rfl,hs.up i hfi,hs.cls,fun e=> ?_⟩,?_⟩
    ·unfold qfh;simp only[cond_true];rw[he];rfl
    ·obtain⟨_,h2,h3⟩:=hs.no e;rw[h2];exact h3
    ·simp only[ecnt,Bool.toNat_true];cases m' with
     |false=>
      obtain⟨_,h2,_⟩:=hs.no rfl;rw[h2];simp
     |true=>
      rcases hs.yes rfl with e|e
      ·cases e
      ·simp only[Bool.toNat_true];omega
 obtain⟨_,ho,rfl⟩:=hL;have eN:Int.toNat ((M:Int)+(ts.length:Int))=M+ts.length:=by omega
 have einit:(List.replicate (M+ts.length) false).set i true=bL (M+ts.length) (qbb (fun _=>false) i):=by
  rw[qa9];exact ml
 unfold uq;simp(disch:=omega)only[eN,List.length_replicate,einit,rs];rw[ho];rfl
end Go.Proofs.YtclbndfjhjladaaGreat
