/-
  Predict: the space of a later marking is full, too.
-/
import Derived.Test.YtokeielgplbdeaaZ8E5
set_option linter.all false
namespace Go.Proofs.Ytokeielgplbdeaa
open Go.K Go.M
theorem qsu:∀(l m:List (List Int)),l.Nodup→(∀x∈l,x∈m)→l.length≤m.length
 |[],m,_,_=>by simp
 |a::l,m,hn,hs=>by
  obtain⟨h1,h2⟩:=List.nodup_cons.1 hn;have ha:a∈m:=hs a List.mem_cons_self;have ih:=qsu l (m.erase a) h2 (fun x hx=>(List.mem_erase_of_ne (fun e=>h1 (by rw[←e];exact hx))).2 (hs x (List.mem_cons_of_mem _ hx)));rw[List.length_erase_of_mem ha]at ih;have:0<m.length:=List.length_pos_of_mem ha;simp only[List.length_cons];omega
structure Clo (n : cj) (M : Nat) (S : List (List Int)) : Prop where
 len : S.length ≤ M
 mks : ∀ x ∈ S, c8 n.1 x = true
 cl : ∀ x ∈ S, ∀ t, t < n.2.1.length → jm (oi n t) x = true → ca (oi n t) x ∈ S
theorem q9g{n:cj}{M:Nat}{S:List (List Int)}(h:Clo n M S){i:Nat}{σ:pb}(hs:SpI n M σ)(h1:σ.1=true)(h2:∀y∈σ.2.1,y∈S)(hi:i<σ.2.1.length){t:Nat}(ht:t<n.2.1.length):(td n M i σ t).1=true∧∀y∈(td n M i σ t).2.1,y∈S:=by
 have hx:=h2 _ (aw [] hi);rcases nk n M i σ t with⟨g1,e⟩|⟨g1,g2,e⟩|⟨g1,g2,q,g3,e⟩|⟨g1,g2,g3,g4,e⟩|⟨g1,g2,g3,g4,e⟩<;>rw[e]
 ·exact⟨h1,h2⟩
 ·have:=h.mks _ (h.cl _ hx t ht g1);rw[this]at g2;cases g2
 ·exact⟨h1,h2⟩
 ·refine⟨h1,fun y hy=> ?_⟩;rcases List.mem_append.1 hy with hy|hy
  ·exact h2 y hy
  ·rw[List.mem_singleton.1 hy];exact h.cl _ hx t ht g1
 ·exfalso;have hf:=h.cl _ hx t ht g1;have hn:=q0g g3;have:=qsu (ca (oi n t) (c7 σ i)::σ.2.1) S (List.nodup_cons.2 ⟨hn,hs.nd⟩) fun y hy=>by
   rcases List.mem_cons.1 hy with rfl|hy
   ·exact hf
   ·exact h2 y hy
  have hl:=h.len;rw[List.length_cons]at this;omega
theorem q4u{n:cj}{M:Nat}{S:List (List Int)}(h:Clo n M S){i:Nat}:∀(l:List Nat) {σ:pb},(∀t∈l,t<n.2.1.length)→SpI n M σ→σ.1=true→(∀y∈σ.2.1,y∈S)→i<σ.2.1.length→(ll n M i l σ).1=true∧∀y∈(ll n M i l σ).2.1,y∈S
 |[],_,_,_,h1,h2,_=>⟨h1,h2⟩
 |t::l,σ,hl,hs,h1,h2,hi=>by
  obtain⟨g1,g2⟩:=q9g h hs h1 h2 hi (hl t List.mem_cons_self);exact q4u h l (fun t' ht' =>hl t' (List.mem_cons_of_mem _ ht')) (hs.step t) g1 g2 (Nat.lt_of_lt_of_le hi (qh8 hi t).2)
theorem qz7{n:cj}{M:Nat}{S:List (List Int)}(h:Clo n M S):∀(f i:Nat) {σ:pb},SpI n M σ→σ.1=true→(∀y∈σ.2.1,y∈S)→(tn n M f i σ).1=true
 |0,_,_,_,h1,_=>h1
 |f+1,i,σ,hs,h1,h2=>by
  unfold tn;by_cases hi:i<σ.2.1.length
  ·rw[if_pos hi];obtain⟨g1,g2⟩:=q4u h (List.range n.2.1.length) (fun t ht=>List.mem_range.1 ht) hs h1 h2 hi;exact qz7 h f (i+1) (pt (n:=n) (M:=M) (i:=i) (List.range n.2.1.length) hs).1 g1 g2
  ·rw[if_neg hi];exact h1
theorem q9f{n:cj}{M:Nat}{S:List (List Int)}(h:Clo n M S){x:List Int}(hx:x∈S)(hM:1≤M):(spc n M x).1=true:=by
 refine qz7 h (M+1) 0 (qq8 (h.mks x hx) hM) rfl fun y hy=> ?_
 rw[List.mem_singleton.1 hy];exact hx
theorem GG.clo{n:cj}{m:List Int}{M:Nat}{σ:pb}{N g:Nat}{nE:List Eg}{c:Mk}(h:GG n m M σ N g nE c):Clo n M σ.2.1:=by
 refine⟨h.ok.sp.len,h.ok.sp.mks,fun x hx t ht hc=> ?_⟩;obtain⟨i,hi,rfl⟩:=ig [] hx;obtain⟨b,hb⟩:=h.ok.full h.full i t hi ht hc;have he:(i,b,t)∈nE:=by rw[h.eE];exact(qxl h.ok).2 hb
 have:=(h.edge he).2;have hbn:=(h.good _ he).b;rw[show ca (oi n t) (σ.2.1.getD i [])=c7 σ b from this];exact aw [] (by rw[←h.eN];exact hbn)
theorem q9z{n:cj}(h:Small n)(htr:n.2.1.length≤20){m:List Int}(hl:m.length≤1000){most:Int}(hmost:most≤60)(h1:1≤most)(hv:b9 n=true)(hm:c8 n.1 m=true)(hf:(spc n most.toNat m).1=true){e:Int}(he:e≠0)(hx:ao n m most=some ([],0,0,e)):e=10∧qcq n.1 n.2.2.2.1∉(spc n most.toNat m).2.1:=by
 have hE:=rv h m (by omega);have hX:=qrc h m (by omega) most (by omega);rw[hv,hm]at hE hX;rw[if_neg (by omega)]at hX;have hok:=q31 (n:=n) (M:=most.toNat) hm (by omega);have hM:most.toNat≤100:=by omega
 generalize spc n most.toNat m=σ at hX hok hf⊢;obtain⟨e1,e2,e3⟩:=qnn hok;have hsl:=hok.sp.len;have hb:most.toNat*n.2.1.length≤100*20:=Nat.mul_le_mul hM htr;rw[hf]at hX;have hN:=ru hv;have hF:=qzo h hv;have hFd:=q4f (σ.2.1,σ.2.2,true,()) (qcq n.1 n.2.2.2.1) (by show σ.2.1.length≤_;omega) (fun x hx=>by have:=(ja.1 (hok.sp.mks x hx)).1;omega);rcases qvv σ.2.1 (qcq n.1 n.2.2.2.1)with⟨hg,hni⟩|⟨g,hg,hgl,hgs⟩
 ·simp only[hg]at hFd;have hex:ao n m most=some ([],0,0,10):=by
   unfold ao;simp(disch:=omega)only[hE,hX,hF,hFd,Bool.true_and,Bool.not_true,rs]
  rw[hex]at hx;cases hx;exact⟨rfl,hni⟩
 ·exfalso;simp only[hg]at hFd;obtain⟨c',hx1,hs,ha⟩:=q52 (g:=g) (by omega) (egs σ) e2 (by omega) [] 0 0 σ.2.1 true (g:Int) (σ.2.1.length:Int) [] σ.2.1.length 0 (mk0 g) (by omega) qnw.1 qnw.2;have hL1:tz [] 0 0 σ.2.1 σ.2.2 true (g:Int) (σ.2.1.length:Int) [] (true,fb σ.2.1.length (mk0 g))=some (.inl (fb σ.2.1.length c')):=by
   rw[e1];exact ib hx1 (bm (by omega))
  have hL2:=q53 (by omega) (egs σ) e2 (by omega) c' [] 0 0 (g:Int) (σ.2.1.length:Int);rw[←e1]at hL2;have er:List.replicate σ.2.1.length (false:Bool)=fb σ.2.1.length fun _=>false:=qe6 _ _
  have e5:(List.replicate σ.2.1.length (false:Bool)).set g true=fb σ.2.1.length (mk0 g):=by
   rw[er,qg4];refine zf fun j _=> ?_
   unfold q1f mk0;by_cases hj:j=g
   ·rw[if_pos hj,decide_eq_true hj]
   ·rw[if_neg hj,decide_eq_false hj]
  have hlr:(List.replicate σ.2.1.length (false:Bool)).length=σ.2.1.length:=List.length_replicate;have hex:ao n m most=some (gEs c' (egs σ),(g:Int),(σ.2.1.length:Int),0):=by
   unfold ao;simp(disch:=omega)only[hE,hX,hF,hFd,hlr,e5,hL1,hL2,Bool.true_and,Bool.not_true,rs]
  rw[hex]at hx;injection hx with hx
  have:=congrArg (fun y:List (Int×List ab)×Int×Int×Int=>y.2.2.2) hx;exact he this.symm
end Go.Proofs.Ytokeielgplbdeaa
