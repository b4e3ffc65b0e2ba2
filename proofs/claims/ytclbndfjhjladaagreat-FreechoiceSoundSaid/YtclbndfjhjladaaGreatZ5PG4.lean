/-
  Freechoice: classes by uniting: root and unite.
-/
import Derived.Test.YtclbndfjhjladaaGreatZ5PG1
import Derived.Test.YtclbndfjhjladaaGreatZ5X6
set_option linter.all false
namespace Go.Proofs.YtclbndfjhjladaaGreat
open Go.K Go.M
theorem Rep.root{c p:Nat→Nat}(hc:Rep c)(h:UF p c)(z:Nat):p (c z)=c z:=by
 have h1:=hc.idem z;have h2:=h.par (c z);have h3:=h.le (c z);have h4:=hc.le (p (c z));omega
abbrev pL(N:Nat)(p:Nat→Nat):List Int:=bh N fun z=>(p z:Int)
theorem jqn{N:Nat}{p:Nat→Nat}(i x:Nat):(pL N p).set i (x:Int)=pL N (q3l p i x):=by
 rw[qr];refine cd fun v _=> ?_
 unfold q3l;split<;>rfl
theorem jvb{N:Nat}{p:Nat→Nat}{i:Nat}(h:i<N):(pL N p).getD i 0=(p i:Int):=fq h
theorem qb2(N:Nat)(p:Nat→Nat):(pL N p).length=N:=cq _ _
section
variable {N : Nat} (hN : N ≤ 1000) {c : Nat → Nat} (hc : Rep c) (P : Int)
include hN hc
theorem qwr{p:Nat→Nat}(h:UF p c){i:Nat}(hi:i<N):∃p',UF p' c∧b9 (i:Int) P (pL N p)=some ((c i:Int),P,pL N p'):=by
 have hL:∃o,u9 P ((i:Int),pL N p)=some o∧∃p',UF p' c∧o= .inl ((c i:Int),pL N p'):=by
  refine og (fun(s:Int×List Int)=>∃(j:Nat) (q:Nat→Nat),s=((j:Int),pL N q)∧UF q c∧j<N∧c j=c i) (fun s=>s.1.toNat) _ _ ⟨i,p,rfl,h,hi,rfl⟩ (by unfold many;simp;omega) ?_;rintro _ ⟨j,q,rfl,hq,hj,hcj⟩;have hle:=hq.le j;have hle2:=hq.le (q j);by_cases hr:q j=j
  ·refine⟨.done ((j:Int),pL N q),?_,q,hq,?_⟩
   ·simp(disch:=omega)only[gp,qb2,jvb,hr,rs]
   ·rw[←hcj,hq.root j hr]
  ·refine⟨.next ((q (q j):Nat),pL N (q3l q j (q (q j)))),?_,⟨_,_,rfl,hq.halve hr,by omega,by rw[hq.par,hq.par,hcj]⟩,?_⟩
   ·simp(disch:=omega)only[gp,qb2,jvb,jqn,q3l,if_true,rs]
   ·simp only[Int.toNat_natCast];omega
 obtain⟨_,ho,p',hp',rfl⟩:=hL;refine⟨p',hp',?_⟩;unfold b9;rw[ho];rfl
theorem jro{p:Nat→Nat}(h:UF p c)(hP:0≤P){x t:Nat}(hx:x<N)(ht:P.toNat+t<N):
  ∃p',UF p' (mrg c (x,P.toNat+t))∧cm (x:Int) (t:Int) P (pL N p)=some (P,pL N p'):=by
 obtain⟨p1,h1,e1⟩:=qwr hN hc P h hx;obtain⟨p2,h2,e2⟩:=qwr hN hc P h1 ht;have l1:=hc.le x;have l2:=hc.le (P.toNat+t);refine⟨_,h2.unite (e:=(x,P.toNat+t)) (Rep.root hc h2 _) (Rep.root hc h2 _),?_⟩;have ep:P+(t:Int)=((P.toNat+t:Nat):Int):=by omega
 unfold cm;rw[ep,e1];simp only[ax];rw[e2];simp only[ax,qb2,decide_true,nu];rw[show max (c x:Int) (c (P.toNat+t):Int)=((max (c x) (c (P.toNat+t)):Nat):Int) by omega,show min (c x:Int) (c (P.toNat+t):Int)=((min (c x) (c (P.toNat+t)):Nat):Int) by omega];simp(disch:=omega)only[qb2,jqn,rs]
end
theorem qsc(n:bp)(h1:0≤n.1∧n.1≤100)(h2:n.2.1.length≤100):ir n=some (n.1,pL (n.1.toNat+n.2.1.length) id):=by
 have eN:Int.toNat (n.1+(n.2.1.length:Int))=n.1.toNat+n.2.1.length:=by omega
 unfold ir;rw[eN];generalize hN:n.1.toNat+n.2.1.length=N;have hL:xx ((List.replicate N (0:Int)).length:Int) n.1 (0,List.replicate N (0:Int))=some (.inl (pL N id)):=by
  rw[List.length_replicate,qfj];refine cn (fun i=>((i:Int),bh N fun z=>if z<i then(z:Int)else 0)) N (bc (by omega)) _ (fun i hi=> ?_) ?_ _ ?_
  ·have el:(bh N fun z=>if z<i then(z:Int)else 0).length=N:=cq _ _;simp(disch:=omega)only[ja,el,qr,ah,rs];congr 3;refine cd fun v _=> ?_
   by_cases e:v=i
   ·rw[if_pos e,if_pos (by omega),e]
   ·rw[if_neg e];by_cases e2:v<i
    ·rw[if_pos e2,if_pos (by omega)]
    ·rw[if_neg e2,if_neg (by omega)]
  ·simp(disch:=omega)only[ja,rs];congr 2;exact cd fun v hv=>if_pos hv
  ·congr 1
 rw[hL];simp(disch:=omega)only[rs]
end Go.Proofs.YtclbndfjhjladaaGreat
set_option linter.all false
namespace Go.Proofs.YtclbndfjhjladaaGreat
open Go.K Go.M
def jmq(out:Bool)(t:ae):List Int:=bif out then t.2.1++t.2.2.1 else t.2.1
def edT(M t:Nat)(l:List Int):List (Nat×Nat):=l.map fun x=>(x.toNat,M+t)
def edA(M:Nat)(out:Bool)(ts:List ae)(i:Nat):List (Nat×Nat):=(List.range i).flatMap fun t=>edT M t (jmq out (ts.getD t ae.z))
theorem jep(M:Nat)(out:Bool)(ts:List ae)(i:Nat):edA M out ts (i+1)=edA M out ts i++edT M i (jmq out (ts.getD i ae.z)):=by
 unfold edA;rw[List.range_succ,List.flatMap_append];simp
theorem jpa(M t:Nat)(l:List Int)(i:Nat)(h:i<l.length):edT M t (l.take (i+1))=edT M t (l.take i)++[((l.getD i 0).toNat,M+t)]:=by
 unfold edT;rw[d7 l i 0 h,List.map_append];rfl
theorem jqw(es:List (Nat×Nat)):∀{c:Nat→Nat},Rep c→Rep (es.foldl mrg c):=by
 induction es with
 |nil=>intro c h;exact h
 |cons e es ih=>intro c h;exact ih (h.mrg e)
theorem jec(a b:List (Nat×Nat)):yn (a++b)=b.foldl mrg (yn a):=by unfold yn;rw[List.foldl_append]
section
variable {N M : Nat} (hN : N ≤ 1000)
include hN
theorem jaq{E R:Type}{step:Int×Int×List Int→Option (LR (Int×Int×List Int) E R)}{t:Nat}(ht:M+t<N)(l:List Int)(hl:l.length≤1000)(hb:∀x∈l,0≤x∧x<(M:Int))(fin:Int→List Int→E)
  (h:∀(j:Nat) (L:List Int),j<l.length→step ((j:Int),(M:Int),L)=bnd (cm (l.getD j 0) (t:Int) (M:Int) L) fun r=>ao (decide (r.2.length=L.length)) (some (.next (((j+1:Nat):Int),r.1,r.2))))
  (hd:∀L,step ((l.length:Int),(M:Int),L)=some (.done (fin (M:Int) L))) {c p:Nat→Nat} (hc:Rep c) (hp:UF p c):∃p',UF p' ((edT M t l).foldl mrg c)∧a8 step (0,(M:Int),pL N p)=some (.inl (fin (M:Int) (pL N p'))):=by
 have hL:∃o,a8 step (0,(M:Int),pL N p)=some o∧∃p',UF p' ((edT M t l).foldl mrg c)∧o= .inl (fin (M:Int) (pL N p')):=by
  refine og (fun(s:Int×Int×List Int)=>∃(j:Nat) (q:Nat→Nat),s=((j:Int),(M:Int),pL N q)∧j≤l.length∧UF q ((edT M t (l.take j)).foldl mrg c)) (fun s=>l.length-s.1.toNat) _ _ ⟨0,p,rfl,Nat.zero_le _,hp⟩ (by unfold many;simp;omega) ?_;rintro _ ⟨j,q,rfl,hj,hq⟩;by_cases e:j=l.length
  ·subst e;exact⟨.done (fin (M:Int) (pL N q)),hd _,q,by rwa[List.take_length]at hq,rfl⟩
  ·have hjl:j<l.length:=by omega
   obtain⟨h1,h2⟩:=hb _ (au 0 hjl);obtain⟨q',hq',e'⟩:=jro hN (jqw (edT M t (l.take j)) hc) (M:Int) hq (by omega) (x:=(l.getD j 0).toNat) (t:=t) (by omega) (by simpa using ht);rw[Int.toNat_of_nonneg h1]at e';refine⟨.next (((j+1:Nat):Int),(M:Int),pL N q'),?_,⟨j+1,q',rfl,by omega,?_⟩,?_⟩
   ·rw[h j _ hjl,e'];simp only[ax,qb2,decide_true,nu]
   ·rw[jpa M t l j hjl,List.foldl_append];simpa using hq'
   ·simp only[Int.toNat_natCast];omega
 obtain⟨_,ho,p',hp',rfl⟩:=hL;exact⟨p',hp',ho⟩
end
def InB(M:Nat)(ts:List ae):Prop:=∀t∈ts,(t.2.1.length≤60∧t.2.2.1.length≤60)∧(∀x∈t.2.1,0≤x∧x<(M:Int))∧∀x∈t.2.2.1,0≤x∧x<(M:Int)
theorem InB.lst{M:Nat}{ts:List ae}(h:InB M ts){i:Nat}(hi:i<ts.length)(out:Bool):(jmq out (ts.getD i ae.z)).length≤120∧∀x∈jmq out (ts.getD i ae.z),0≤x∧x<(M:Int):=by
 obtain⟨⟨h1,h2⟩,h3,h4⟩:=h _ (au ae.z hi);cases out with
 |false=>exact⟨by show(ts.getD i ae.z).2.1.length≤120;omega,h3⟩
 |true=>
  refine⟨by show((ts.getD i ae.z).2.1++(ts.getD i ae.z).2.2.1).length≤120;rw[List.length_append];omega,fun x hx=> ?_⟩;rcases List.mem_append.1 (show x∈(ts.getD i ae.z).2.1++(ts.getD i ae.z).2.2.1 from hx)with hx|hx
  ·exact h3 x hx
  ·exact h4 x hx
section
variable {M : Nat} {ts : List ae} (hM : M ≤ 100) (hT : ts.length ≤ 100) (hB : InB M ts)
include hM hT hB
theorem jba(a b c:Int):∃p,UF p (yn (edA M false ts ts.length))∧su ts (ts.length:Int) a ts b c (0,(M:Int),pL (M+ts.length) id)=some (.inl ((M:Int),pL (M+ts.length) p)):=by
 have hL:∃o,su ts (ts.length:Int) a ts b c (0,(M:Int),pL (M+ts.length) id)=some o∧∃p,UF p (yn (edA M false ts ts.length))∧o= .inl ((M:Int),pL (M+ts.length) p):=by
  refine og (fun(s:Int×Int×List Int)=>∃(j:Nat) (q:Nat→Nat),s=((j:Int),(M:Int),pL (M+ts.length) q)∧j≤ts.length∧UF q (yn (edA M false ts j))) (fun s=>ts.length-s.1.toNat) _ _ ⟨0,id,rfl,Nat.zero_le _,UF.id⟩ (by unfold many;simp;omega) ?_;rintro _ ⟨j,q,rfl,hj,hq⟩;by_cases e:j=ts.length
  ·subst e;refine⟨.done ((M:Int),pL (M+ts.length) q),?_,q,hq,rfl⟩;simp(disch:=omega)only[kc,rs]
  ·have hjl:j<ts.length:=by omega
   obtain⟨h1,h2⟩:=hB.lst hjl false;have hl60:=(hB _ (au ae.z hjl)).1.1;have s1:∀(k:Nat) (L:List Int),k<(ts.getD j ae.z).2.1.length→dg (R:=LR (Int×Int×List Int) (Int×List Int) (List ag)) (j:Int) ts (ts.length:Int) (j:Int) (ts.getD j ae.z).2.1 ((ts.getD j ae.z).2.1.length:Int) a ts b c (k:Int) (M:Int) L (fun a' =>some (.next a')) (fun e=>some (.done e)) (fun r=>some (.ret r))=bnd (cm ((ts.getD j ae.z).2.1.getD k 0) (j:Int) (M:Int) L) fun r=>ao (decide (r.2.length=L.length)) (some (.next (((k+1:Nat):Int),r.1,r.2))):=fun k L hk=>by
    simp(disch:=omega)only[dg,ah,rs]
   have s2:∀L:List Int,dg (R:=LR (Int×Int×List Int) (Int×List Int) (List ag)) (j:Int) ts (ts.length:Int) (j:Int) (ts.getD j ae.z).2.1 ((ts.getD j ae.z).2.1.length:Int) a ts b c ((ts.getD j ae.z).2.1.length:Int) (M:Int) L (fun a' =>some (.next a')) (fun e=>some (.done e)) (fun r=>some (.ret r))=some (.done ((M:Int),L)):=fun L=>by
    simp(disch:=omega)only[dg,rs]
   obtain⟨q',hq',e'⟩:=jaq (N:=M+ts.length) (M:=M) (by omega) (step:=fun(x:Int×Int×List Int)=>dg (R:=LR (Int×Int×List Int) (Int×List Int) (List ag)) (j:Int) ts (ts.length:Int) (j:Int) (ts.getD j ae.z).2.1 ((ts.getD j ae.z).2.1.length:Int) a ts b c x.1 x.2.1 x.2.2 (fun a' =>some (.next a')) (fun e=>some (.done e)) (fun r=>some (.ret r))) (t:=j) (by omega) (ts.getD j ae.z).2.1 (by omega) h2 (fun x y=>(x,y)) s1 s2 (que (edA M false ts j)) hq;refine⟨.next (((j+1:Nat):Int),(M:Int),pL (M+ts.length) q'),?_,⟨j+1,q',rfl,by omega,?_⟩,?_⟩
   ·simp(disch:=omega)only[kc,rs];have e2:qbi (j:Int) ts (ts.length:Int) (j:Int) (ts.getD j ae.z).2.1 ((ts.getD j ae.z).2.1.length:Int) a ts b c (0,(M:Int),pL (M+ts.length) q)=_:=e';rw[e2];simp(disch:=omega)only[rs];rw[ah]
   ·rw[jep,jec];exact hq'
   ·simp only[Int.toNat_natCast];omega
 obtain⟨_,ho,p',hp',rfl⟩:=hL;exact⟨p',hp',ho⟩
end
def qk5(f:Nat→Bool):Nat→Nat
 |0=>0
 |n+1=>qk5 f n+(if f n=true then 0 else 1)
theorem qq5{f g:Nat→Bool}(h:∀z,f z=true→g z=true):∀n,qk5 g n≤qk5 f n
 |0=>Nat.le_refl _
 |n+1=>by
  have:=qq5 h n;have:=h n;unfold qk5;split<;>split<;>first|omega|(rename_i h1 h2;exact absurd (h n h2) h1)
theorem jjm{f g:Nat→Bool}(h:∀z,f z=true→g z=true):∀{n z:Nat},z<n→f z=false→g z=true→qk5 g n<qk5 f n
 |0,_,hz,_,_=>by omega
 |n+1,z,hz,h1,h2=>by
  unfold qk5;by_cases e:z=n
  ·subst e;have:=qq5 h z;rw[if_pos h2,if_neg (by simp[h1])];omega
  ·have:=jjm h (n:=n) (z:=z) (by omega) h1 h2;have:=h n;split<;>split<;>first|omega|(rename_i h3 h4;exact absurd (h n h4) h3)
theorem jjl(f:Nat→Bool):∀n,qk5 f n≤n
 |0=>Nat.le_refl _
 |n+1=>by have:=jjl f n;unfold qk5;split<;>omega
def qtw(f:Nat→Bool)(i:Nat):Nat→Bool:=fun z=>if z=i then true else f z
abbrev bL(N:Nat)(f:Nat→Bool):List Bool:=bh N f
theorem qox(N:Nat)(f:Nat→Bool):(bL N f).length=N:=cq _ _
theorem q4i{N:Nat}{f:Nat→Bool}{i:Nat}(h:i<N):(bL N f).getD i false=f i:=fq h
theorem jgw{N:Nat}{f:Nat→Bool}(i:Nat):(bL N f).set i true=bL N (qtw f i):=qr
structure Swp (N : Nat) (c : Nat → Nat) (r : Nat) (es : List (Nat × Nat)) (m : Bool) (f : Nat → Bool) (m' : Bool) (f' : Nat → Bool) : Prop where
 up : ∀ z, f z = true → f' z = true
 cls : ∀ z, f' z = true → c z = r
 no : m' = false → m = false ∧ f' = f ∧ ∀ e ∈ es, f e.1 = f e.2
 yes : m' = true → m = true ∨ qk5 f' N < qk5 f N
theorem Swp.refl{N:Nat}{c:Nat→Nat}{r:Nat}{m:Bool}{f:Nat→Bool}(h:∀z,f z=true→c z=r):Swp N c r [] m f m f:=
 ⟨fun _ h=>h,h,fun e=>⟨e,rfl,fun e he=>by cases he⟩,fun e=> .inl e⟩
theorem Swp.trans{N:Nat}{c:Nat→Nat}{r:Nat}{es es' :List (Nat×Nat)}{m m' m'' :Bool}{f f' f'' :Nat→Bool}(h:Swp N c r es m f m' f')(h' :Swp N c r es' m' f' m'' f''):Swp N c r (es++es') m f m'' f'' :=by
 refine⟨fun z hz=>h'.up z (h.up z hz),h'.cls,fun e=> ?_,fun e=> ?_⟩
 ·obtain⟨a1,a2,a3⟩:=h'.no e;obtain⟨b1,b2,b3⟩:=h.no a1;subst b2;refine⟨b1,a2,fun e he=> ?_⟩;rcases List.mem_append.1 he with he|he
  ·exact b3 e he
  ·exact a3 e he
 ·have l1:=qq5 h.up N;have l2:=qq5 h'.up N;rcases h'.yes e with e|e
  ·rcases h.yes e with e|e
   ·exact .inl e
   ·exact .inr (by omega)
  ·exact .inr (by omega)
end Go.Proofs.YtclbndfjhjladaaGreat
