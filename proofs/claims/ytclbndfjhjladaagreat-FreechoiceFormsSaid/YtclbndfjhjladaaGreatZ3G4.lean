/-
  Freechoice: the classes of a net, by uniting (the program) and by spreading (the reference).
-/
import Derived.Test.YtclbndfjhjladaaGreatZ3G3
set_option linter.all false
namespace Go.Proofs.YtclbndfjhjladaaGreat
open Go.K Go.M
def lstB (out:Bool) (t:Trans):List Int:=bif out then t.2.1++t.2.2.1 else t.2.1
def edT (M t:Nat) (l:List Int):List (Nat×Nat):=l.map fun x=>(x.toNat,M+t)
def edA (M:Nat) (out:Bool) (ts:List Trans) (i:Nat):List (Nat×Nat):=(List.range i).flatMap fun t=>edT M t (lstB out (ts.getD t Trans.z))
theorem q1fq (M:Nat) (out:Bool) (ts:List Trans) (i:Nat):edA M out ts (i+1)=edA M out ts i++edT M i (lstB out (ts.getD i Trans.z)):=by
 unfold edA
 rw [List.range_succ,List.flatMap_append]
 simp
theorem q1ff (M t:Nat) (l:List Int) (i:Nat) (h:i < l.length):edT M t (l.take (i+1))=edT M t (l.take i)++[((l.getD i 0).toNat,M+t)]:=by
 unfold edT
 rw [qh4 l i 0 h,List.map_append]
 rfl
theorem q1lk (es:List (Nat×Nat)):∀ {c:Nat→Nat},Rep c→Rep (es.foldl mrg c):=by
 induction es with
 | nil => intro c h; exact h
 | cons e es ih => intro c h; exact ih (h.mrg e)
theorem q1lv (a b:List (Nat×Nat)):clsF (a++b)=b.foldl mrg (clsF a):=by unfold clsF; rw [List.foldl_append]
section
variable {N M:Nat} (hN:N≤1000)
include hN
theorem q1l5 {E R:Type} {step:Int×Int×List Int→Option (LR (Int×Int×List Int) E R)} {t:Nat} (ht:M+t < N) (l:List Int) (hl:l.length≤1000) (hb:∀ x∈l,0≤x∧x < (M:Int)) (fin:Int→List Int→E)
   (h:∀ (j:Nat) (L:List Int),j < l.length→step ((j:Int),(M:Int),L)=bnd (q1k (l.getD j 0) (t:Int) (M:Int) L) fun r=>ckB (decide (r.2.length=L.length)) (some (.next (((j+1:Nat):Int),r.1,r.2))))
   (hd:∀ L,step ((l.length:Int),(M:Int),L)=some (.done (fin (M:Int) L))) {c p:Nat→Nat} (hc:Rep c) (hp:UF p c):∃ p',UF p' ((edT M t l).foldl mrg c)∧loopM step (0,(M:Int),pL N p)=some (.inl (fin (M:Int) (pL N p'))):=by
 have hL:∃ o,loopM step (0,(M:Int),pL N p)=some o∧∃ p',UF p' ((edT M t l).foldl mrg c)∧o=.inl (fin (M:Int) (pL N p')):=by
   refine q6s (fun (s:Int×Int×List Int)=>∃ (j:Nat) (q:Nat→Nat),s=((j:Int),(M:Int),pL N q)∧j≤l.length∧UF q ((edT M t (l.take j)).foldl mrg c)) (fun s=>l.length - s.1.toNat) _ _ ⟨0,p,rfl,Nat.zero_le _,hp⟩ (by unfold many; simp; omega) ?_
   rintro _ ⟨j,q,rfl,hj,hq⟩
   by_cases e:j=l.length
   · subst e
     exact ⟨.done (fin (M:Int) (pL N q)),hd _,q,by rwa [List.take_length] at hq,rfl⟩
   · have hjl:j < l.length:=by omega
     obtain ⟨h1,h2⟩:=hb _ (qv 0 hjl)
     obtain ⟨q',hq',e'⟩:=q1lg hN (q1lk (edT M t (l.take j)) hc) (M:Int) hq (by omega) (x:=(l.getD j 0).toNat) (t:=t) (by omega) (by simpa using ht)
     rw [Int.toNat_of_nonneg h1] at e'
     refine ⟨.next (((j+1:Nat):Int),(M:Int),pL N q'),?_,⟨j+1,q',rfl,by omega,?_⟩,?_⟩
     · rw [h j _ hjl,e']
       simp only [bnd_ok,pL_len,decide_true,qqm]
     · rw [q1ff M t l j hjl,List.foldl_append]
       simpa using hq'
     · simp only [Int.toNat_natCast]
       omega
 obtain ⟨_,ho,p',hp',rfl⟩:=hL
 exact ⟨p',hp',ho⟩
end
def InB (M:Nat) (ts:List Trans):Prop:=∀ t∈ts,(t.2.1.length≤60∧t.2.2.1.length≤60)∧(∀ x∈t.2.1,0≤x∧x < (M:Int))∧∀ x∈t.2.2.1,0≤x∧x < (M:Int)
theorem InB.lst {M:Nat} {ts:List Trans} (h:InB M ts) {i:Nat} (hi:i < ts.length) (out:Bool):(lstB out (ts.getD i Trans.z)).length≤120∧∀ x∈lstB out (ts.getD i Trans.z),0≤x∧x < (M:Int):=by
 obtain ⟨⟨h1,h2⟩,h3,h4⟩:=h _ (qv Trans.z hi)
 cases out with
 | false => exact ⟨by show (ts.getD i Trans.z).2.1.length≤120; omega,h3⟩
 | true =>
   refine ⟨by show ((ts.getD i Trans.z).2.1++(ts.getD i Trans.z).2.2.1).length≤120; rw [List.length_append]; omega,fun x hx=>?_⟩
   rcases List.mem_append.1 (show x∈(ts.getD i Trans.z).2.1++(ts.getD i Trans.z).2.2.1 from hx) with hx | hx
   · exact h3 x hx
   · exact h4 x hx
section
variable {M:Nat} {ts:List Trans} (hM:M≤100) (hT:ts.length≤100) (hB:InB M ts)
include hM hT hB
theorem q1gv (a b c:Int):∃ p,UF p (clsF (edA M false ts ts.length))∧qcd ts (ts.length:Int) a ts b c (0,(M:Int),pL (M+ts.length) id)=some (.inl ((M:Int),pL (M+ts.length) p)):=by
 have hL:∃ o,qcd ts (ts.length:Int) a ts b c (0,(M:Int),pL (M+ts.length) id)=some o∧∃ p,UF p (clsF (edA M false ts ts.length))∧o=.inl ((M:Int),pL (M+ts.length) p):=by
   refine q6s (fun (s:Int×Int×List Int)=>∃ (j:Nat) (q:Nat→Nat),s=((j:Int),(M:Int),pL (M+ts.length) q)∧j≤ts.length∧UF q (clsF (edA M false ts j))) (fun s=>ts.length - s.1.toNat) _ _ ⟨0,id,rfl,Nat.zero_le _,UF.id⟩ (by unfold many; simp; omega) ?_
   rintro _ ⟨j,q,rfl,hj,hq⟩
   by_cases e:j=ts.length
   · subst e
     refine ⟨.done ((M:Int),pL (M+ts.length) q),?_,q,hq,rfl⟩
     simp (disch:=omega) only [q5m,ckB_ix,qg,qc,qk,ckB_mk,ckB_ne,bif_lt,qf,bif_le,qh,bif_eq,qe,bif_ne,qj,qi,qb,qa,bnd_ok,lk_inl,lk_inr,Int.toNat_natCast,decide_true]
   · have hjl:j < ts.length:=by omega
     obtain ⟨h1,h2⟩:=hB.lst hjl false
     have hl60:=(hB _ (qv Trans.z hjl)).1.1
     have s1:∀ (k:Nat) (L:List Int),k < (ts.getD j Trans.z).2.1.length→q1u (R:=LR (Int×Int×List Int) (Int×List Int) (List q0)) (j:Int) ts (ts.length:Int) (j:Int) (ts.getD j Trans.z).2.1 ((ts.getD j Trans.z).2.1.length:Int) a ts b c (k:Int) (M:Int) L (fun a'=>some (.next a')) (fun e=>some (.done e)) (fun r=>some (.ret r))=bnd (q1k ((ts.getD j Trans.z).2.1.getD k 0) (j:Int) (M:Int) L) fun r=>ckB (decide (r.2.length=L.length)) (some (.next (((k+1:Nat):Int),r.1,r.2))):=fun k L hk=>by
       simp (disch:=omega) only [q1u,qp,ckB_ix,qg,qc,qk,ckB_mk,ckB_ne,bif_lt,qf,bif_le,qh,bif_eq,qe,bif_ne,qj,qi,qb,qa,bnd_ok,lk_inl,lk_inr,Int.toNat_natCast,decide_true]
     have s2:∀ L:List Int,q1u (R:=LR (Int×Int×List Int) (Int×List Int) (List q0)) (j:Int) ts (ts.length:Int) (j:Int) (ts.getD j Trans.z).2.1 ((ts.getD j Trans.z).2.1.length:Int) a ts b c ((ts.getD j Trans.z).2.1.length:Int) (M:Int) L (fun a'=>some (.next a')) (fun e=>some (.done e)) (fun r=>some (.ret r))=some (.done ((M:Int),L)):=fun L=>by
       simp (disch:=omega) only [q1u,ckB_ix,qg,qc,qk,ckB_mk,ckB_ne,bif_lt,qf,bif_le,qh,bif_eq,qe,bif_ne,qj,qi,qb,qa,bnd_ok,lk_inl,lk_inr,Int.toNat_natCast,decide_true]
     obtain ⟨q',hq',e'⟩:=q1l5 (N:=M+ts.length) (M:=M) (by omega) (step:=fun (x:Int×Int×List Int)=>q1u (R:=LR (Int×Int×List Int) (Int×List Int) (List q0)) (j:Int) ts (ts.length:Int) (j:Int) (ts.getD j Trans.z).2.1 ((ts.getD j Trans.z).2.1.length:Int) a ts b c x.1 x.2.1 x.2.2 (fun a'=>some (.next a')) (fun e=>some (.done e)) (fun r=>some (.ret r))) (t:=j) (by omega) (ts.getD j Trans.z).2.1 (by omega) h2 (fun x y=>(x,y)) s1 s2 (q1d2 (edA M false ts j)) hq
     refine ⟨.next (((j+1:Nat):Int),(M:Int),pL (M+ts.length) q'),?_,⟨j+1,q',rfl,by omega,?_⟩,?_⟩
     · simp (disch:=omega) only [q5m,ckB_ix,qg,qc,qk,ckB_mk,ckB_ne,bif_lt,qf,bif_le,qh,bif_eq,qe,bif_ne,qj,qi,qb,qa,bnd_ok,lk_inl,lk_inr,Int.toNat_natCast,decide_true]
       have e2:qn0 (j:Int) ts (ts.length:Int) (j:Int) (ts.getD j Trans.z).2.1 ((ts.getD j Trans.z).2.1.length:Int) a ts b c (0,(M:Int),pL (M+ts.length) q)=_:=e'
       rw [e2]
       simp (disch:=omega) only [ckB_ix,qg,qc,qk,ckB_mk,ckB_ne,bif_lt,qf,bif_le,qh,bif_eq,qe,bif_ne,qj,qi,qb,qa,bnd_ok,lk_inl,lk_inr,Int.toNat_natCast,decide_true]
       rw [qp]
     · rw [q1fq,q1lv]
       exact hq'
     · simp only [Int.toNat_natCast]
       omega
 obtain ⟨_,ho,p',hp',rfl⟩:=hL
 exact ⟨p',hp',ho⟩
end
def cntF (f:Nat→Bool):Nat→Nat
 | 0 => 0
 | n + 1 => cntF f n+(if f n=true then 0 else 1)
theorem qsy {f g:Nat→Bool} (h:∀ z,f z=true→g z=true):∀ n,cntF g n≤cntF f n
 | 0 => Nat.le_refl _
 | n + 1 => by
   have:=qsy h n
   have:=h n
   unfold cntF
   split<;>split<;>first | omega | (rename_i h1 h2; exact absurd (h n h2) h1)
theorem q143 {f g:Nat→Bool} (h:∀ z,f z=true→g z=true):∀ {n z:Nat},z < n→f z=false→g z=true→cntF g n < cntF f n
 | 0, _, hz, _, _ => by omega
 | n + 1, z, hz, h1, h2 => by
   unfold cntF
   by_cases e:z=n
   · subst e
     have:=qsy h z
     rw [if_pos h2,if_neg (by simp [h1])]
     omega
   · have:=q143 h (n:=n) (z:=z) (by omega) h1 h2
     have:=h n
     split<;>split<;>first | omega | (rename_i h3 h4; exact absurd (h n h4) h3)
theorem q1c5 (f:Nat→Bool):∀ n,cntF f n≤n
 | 0 => Nat.le_refl _
 | n + 1 => by have:=q1c5 f n; unfold cntF; split<;>omega
def setT (f:Nat→Bool) (i:Nat):Nat→Bool:=fun z=>if z=i then true else f z
abbrev bL (N:Nat) (f:Nat→Bool):List Bool:=tab N f
theorem bL_len (N:Nat) (f:Nat→Bool):(bL N f).length=N:=q1c2 _ _
theorem bL_at {N:Nat} {f:Nat→Bool} {i:Nat} (h:i < N):(bL N f).getD i false=f i:=q1fs h
theorem bL_set {N:Nat} {f:Nat→Bool} (i:Nat):(bL N f).set i true=bL N (setT f i):=qt3
structure Swp (N:Nat) (c:Nat→Nat) (r:Nat) (es:List (Nat×Nat)) (m:Bool) (f:Nat→Bool) (m':Bool) (f':Nat→Bool):Prop where
 up:∀ z,f z=true→f' z=true
 cls:∀ z,f' z=true→c z=r
 no:m'=false→m=false∧f'=f∧∀ e∈es,f e.1=f e.2
 yes:m'=true→m=true∨cntF f' N < cntF f N
theorem Swp.refl {N:Nat} {c:Nat→Nat} {r:Nat} {m:Bool} {f:Nat→Bool} (h:∀ z,f z=true→c z=r):Swp N c r [] m f m f :=
 ⟨fun _ h=>h,h,fun e=>⟨e,rfl,fun e he=>by cases he⟩,fun e=>.inl e⟩
theorem Swp.trans {N:Nat} {c:Nat→Nat} {r:Nat} {es es':List (Nat×Nat)} {m m' m'':Bool} {f f' f'':Nat→Bool} (h:Swp N c r es m f m' f') (h':Swp N c r es' m' f' m'' f''):Swp N c r (es++es') m f m'' f'':=by
 refine ⟨fun z hz=>h'.up z (h.up z hz),h'.cls,fun e=>?_,fun e=>?_⟩
 · obtain ⟨a1,a2,a3⟩:=h'.no e
   obtain ⟨b1,b2,b3⟩:=h.no a1
   subst b2
   refine ⟨b1,a2,fun e he=>?_⟩
   rcases List.mem_append.1 he with he | he
   · exact b3 e he
   · exact a3 e he
 · have l1:=qsy h.up N
   have l2:=qsy h'.up N
   rcases h'.yes e with e | e
   · rcases h.yes e with e | e
     · exact .inl e
     · exact .inr (by omega)
   · exact .inr (by omega)
theorem Swp.one {N:Nat} {c:Nat→Nat} {r x y:Nat} {m:Bool} {f:Nat→Bool} (hf:∀ z,f z=true→c z=r) (hc:c x=c y) (hx:x < N) (hy:y < N) :
   Swp N c r [(x,y)] m f (if f x=f y then m else true) (if f x=f y then f else setT (setT f x) y):=by
 by_cases e:f x=f y
 · rw [if_pos e,if_pos e]
   exact ⟨fun _ h=>h,hf,fun e'=>⟨e',rfl,fun d hd=>by rw [List.mem_singleton.1 hd]; exact e⟩,fun e'=>.inl e'⟩
 · rw [if_neg e,if_neg e]
   have hup:∀ z,f z=true→setT (setT f x) y z=true:=fun z hz=>by unfold setT; split; rfl; split; rfl; exact hz
   refine ⟨hup,fun z hz=>?_,fun e'=>(by cases e'),fun _=>.inr ?_⟩
   · have hr:c x=r:=by
       cases hx:f x with
       | true => exact hf x hx
       | false =>
         cases hy:f y with
         | true => rw [hc]; exact hf y hy
         | false => exact absurd (hx.trans hy.symm) e
     unfold setT at hz
     split at hz
     · rename_i h1; rw [h1,← hc]; exact hr
     · split at hz
       · rename_i h1; rw [h1]; exact hr
       · exact hf z hz
   · cases h1:f x with
     | false => exact q143 hup hx h1 (by unfold setT; split; rfl; rw [if_pos rfl])
     | true =>
       cases h2:f y with
       | false => exact q143 hup hy h2 (by unfold setT; rw [if_pos rfl])
       | true => exact absurd (h1.trans h2.symm) e
section
variable {M:Nat} {ts:List Trans} (hM:M≤100) (hT:ts.length≤100) (hB:InB M ts) {out:Bool} {c:Nat→Nat} (hcp:∀ e∈edA M out ts ts.length,c e.1=c e.2) (r:Nat)
include hM hT hB hcp
theorem q1na {i:Nat} (hi:i < ts.length) {e:Nat×Nat} (he:e∈edT M i (lstB out (ts.getD i Trans.z))):e∈edA M out ts ts.length:=List.mem_flatMap.2 ⟨i,List.mem_range.2 hi,he⟩
theorem q1jw {i:Nat} (hi:i < ts.length) (ob:Bool) (a b:Int) (m:Bool) (f:Nat→Bool) (hf:∀ z,f z=true→c z=r) :
   ∃ m' f',Swp (M+ts.length) c r (edT M i (lstB out (ts.getD i Trans.z))) m f m' f'∧qqj ob (i:Int) (lstB out (ts.getD i Trans.z)) (M:Int) ts a b (m,0,bL (M+ts.length) f)=some (.inl (m',bL (M+ts.length) f')):=by
 obtain ⟨hl,hb⟩:=hB.lst hi out
 generalize hll:lstB out (ts.getD i Trans.z)=l at hl hb
 have hc:∀ x∈l,c x.toNat=c (M+i):=fun x hx=>hcp (x.toNat,M+i) (q1na hM hT hB hcp hi (by rw [hll]; exact List.mem_map.2 ⟨x,hx,rfl⟩))
 have hL:∃ o,qqj ob (i:Int) l (M:Int) ts a b (m,0,bL (M+ts.length) f)=some o∧∃ m' f',Swp (M+ts.length) c r (edT M i l) m f m' f'∧o=.inl (m',bL (M+ts.length) f'):=by
   refine q6s (fun (s:Bool×Int×List Bool)=>∃ (m':Bool) (j:Nat) (g:Nat→Bool),s=(m',(j:Int),bL (M+ts.length) g)∧j≤l.length∧Swp (M+ts.length) c r (edT M i (l.take j)) m f m' g) (fun s=>l.length - s.2.1.toNat) _ _ ⟨m,0,f,rfl,Nat.zero_le _,by rw [List.take_zero]; exact Swp.refl hf⟩ (by unfold many; simp; omega) ?_
   rintro _ ⟨m',j,g,rfl,hj,hg⟩
   by_cases e:j=l.length
   · subst e
     rw [List.take_length] at hg
     refine ⟨.done (m',bL (M+ts.length) g),?_,m',g,hg,rfl⟩
     simp (disch:=omega) only [qfd,ckB_ix,qg,qc,qk,ckB_mk,ckB_ne,bif_lt,qf,bif_le,qh,bif_eq,qe,bif_ne,qj,qi,qb,qa,bnd_ok,lk_inl,lk_inr,Int.toNat_natCast,decide_true]
   · have hjl:j < l.length:=by omega
     obtain ⟨h1,h2⟩:=hb _ (qv 0 hjl)
     have h3:=hc _ (qv 0 hjl)
     have e1:((l.getD j 0).toNat:Int)=l.getD j 0:=Int.toNat_of_nonneg h1
     have e2:Int.toNat ((M:Int)+(i:Int))=M+i:=by omega
     have hone:=Swp.one (N:=M+ts.length) (m:=m') hg.cls h3 (by omega) (by omega)
     have hnew:=hg.trans hone
     rw [← q1ff M i l j hjl] at hnew
     refine ⟨.next (_,((j+1:Nat):Int),bL (M+ts.length) _),?_,⟨_,j+1,_,rfl,by omega,hnew⟩,?_⟩
     · simp (disch:=omega) only [qfd,e2,bL_len,bL_at,bL_set,ckB_ix,qg,qc,qk,ckB_mk,ckB_ne,bif_lt,qf,bif_le,qh,bif_eq,qe,bif_ne,qj,qi,qb,qa,bnd_ok,lk_inl,lk_inr,Int.toNat_natCast,decide_true]
       by_cases e3:g (l.getD j 0).toNat=g (M+i)
       · rw [if_pos e3,if_pos e3,e3]
         simp only [beq_self_eq_true,cond_true,qp]
       · rw [if_neg e3,if_neg e3]
         have:(g (l.getD j 0).toNat == g (M+i))=false:=by simpa using e3
         rw [this]
         simp only [cond_false,qp]
     · simp only [Int.toNat_natCast]
       omega
 obtain ⟨_,ho,m',f',hs,rfl⟩:=hL
 exact ⟨m',f',hs,ho⟩
theorem q1k8 (a b:Int) (m:Bool) (f:Nat→Bool) (hf:∀ z,f z=true→c z=r) :
   ∃ m' f',Swp (M+ts.length) c r (edA M out ts ts.length) m f m' f'∧qqe out (M:Int) ts a b (m,0,bL (M+ts.length) f)=some (.inl (m',bL (M+ts.length) f')):=by
 have hL:∃ o,qqe out (M:Int) ts a b (m,0,bL (M+ts.length) f)=some o∧∃ m' f',Swp (M+ts.length) c r (edA M out ts ts.length) m f m' f'∧o=.inl (m',bL (M+ts.length) f'):=by
   refine q6s (fun (s:Bool×Int×List Bool)=>∃ (m':Bool) (j:Nat) (g:Nat→Bool),s=(m',(j:Int),bL (M+ts.length) g)∧j≤ts.length∧Swp (M+ts.length) c r (edA M out ts j) m f m' g) (fun s=>ts.length - s.2.1.toNat) _ _ ⟨m,0,f,rfl,Nat.zero_le _,Swp.refl hf⟩ (by unfold many; simp; omega) ?_
   rintro _ ⟨m',j,g,rfl,hj,hg⟩
   by_cases e:j=ts.length
   · subst e
     refine ⟨.done (m',bL (M+ts.length) g),?_,m',g,hg,rfl⟩
     simp (disch:=omega) only [q9t,ckB_ix,qg,qc,qk,ckB_mk,ckB_ne,bif_lt,qf,bif_le,qh,bif_eq,qe,bif_ne,qj,qi,qb,qa,bnd_ok,lk_inl,lk_inr,Int.toNat_natCast,decide_true]
   · have hjl:j < ts.length:=by omega
     obtain ⟨⟨l1,l2⟩,_⟩:=hB _ (qv Trans.z hjl)
     obtain ⟨m2,f2,hs,he⟩:=q1jw hM hT hB hcp r hjl out a b m' g hg.cls
     have hnew:=hg.trans hs
     rw [← q1fq] at hnew
     refine ⟨.next (m2,((j+1:Nat):Int),bL (M+ts.length) f2),?_,⟨m2,j+1,f2,rfl,by omega,hnew⟩,?_⟩
     · have hT1:qhn out m' (j:Int) (lstB out (ts.getD j Trans.z)) (M:Int) ts a b (bL (M+ts.length) g)=some (.inl (m2,bL (M+ts.length) f2)):=by
         unfold qhn qo4
         rw [he]
         rfl
       unfold lstB at hT1
       have l3:(([]:List Int)++(ts.getD j Trans.z).2.1).length=(ts.getD j Trans.z).2.1.length:=rfl
       cases out with
       | false =>
         simp (disch:=omega) only [q9t,List.nil_append,cond_false,ckB_ix,qg,qc,qk,ckB_mk,ckB_ne,bif_lt,qf,bif_le,qh,bif_eq,qe,bif_ne,qj,qi,qb,qa,bnd_ok,lk_inl,lk_inr,Int.toNat_natCast,decide_true]
         simp only [cond_false] at hT1
         rw [hT1]
         simp (disch:=omega) only [ckB_ix,qg,qc,qk,ckB_mk,ckB_ne,bif_lt,qf,bif_le,qh,bif_eq,qe,bif_ne,qj,qi,qb,qa,bnd_ok,lk_inl,lk_inr,Int.toNat_natCast,decide_true]
         rw [qp]
       | true =>
         simp (disch:=omega) only [q9t,List.nil_append,cond_true,ckB_ix,qg,qc,qk,ckB_mk,ckB_ne,bif_lt,qf,bif_le,qh,bif_eq,qe,bif_ne,qj,qi,qb,qa,bnd_ok,lk_inl,lk_inr,Int.toNat_natCast,decide_true]
         simp only [cond_true] at hT1
         rw [hT1]
         simp (disch:=omega) only [ckB_ix,qg,qc,qk,ckB_mk,ckB_ne,bif_lt,qf,bif_le,qh,bif_eq,qe,bif_ne,qj,qi,qb,qa,bnd_ok,lk_inl,lk_inr,Int.toNat_natCast,decide_true]
         rw [qp]
     · simp only [Int.toNat_natCast]
       omega
 obtain ⟨_,ho,m',f',hs,rfl⟩:=hL
 exact ⟨m',f',hs,ho⟩
end
theorem q1kv {M:Nat} {ts:List Trans} (hM:M≤100) (hT:ts.length≤100) (hB:InB M ts) (out:Bool) {i:Nat} (hi:i < M+ts.length) (a b:Int) :
   qo3 ((M:Int),ts,a,b,()) (i:Int) out=some (bL (M+ts.length) fun z=>decide (clsF (edA M out ts ts.length) z=clsF (edA M out ts ts.length) i)):=by
 generalize hcd:clsF (edA M out ts ts.length)=c
 have hcp:∀ e∈edA M out ts ts.length,c e.1=c e.2:=fun e he=>by rw [← hcd]; exact q1m3 he
 have hL:∃ o,qyw out (M:Int) ts a b (true,bL (M+ts.length) (setT (fun _=>false) i))=some o∧o=.inl (bL (M+ts.length) fun z=>decide (c z=c i)):=by
   refine q6s (fun (s:Bool×List Bool)=>∃ (m:Bool) (f:Nat→Bool),s=(m,bL (M+ts.length) f)∧f i=true∧(∀ z,f z=true→c z=c i)∧(m=false→∀ e∈edA M out ts ts.length,f e.1=f e.2)) (fun s=>2*cntF (fun z=>s.2.getD z false) (M+ts.length)+s.1.toNat) _ _ ⟨true,_,rfl,by unfold setT; rw [if_pos rfl],fun z hz=>?_,fun e=>by cases e⟩ ?_ ?_
   · unfold setT at hz
     split at hz
     · rename_i e; rw [e]
     · cases hz
   · have:=q1c5 (fun z=>(bL (M+ts.length) (setT (fun _=>false) i)).getD z false) (M+ts.length)
     unfold many
     simp only [Bool.toNat_true]
     omega
   · rintro _ ⟨m,f,rfl,hfi,hf,hm⟩
     have ecnt:∀ g:Nat→Bool,cntF (fun z=>(bL (M+ts.length) g).getD z false) (M+ts.length)=cntF g (M+ts.length):=by
       intro g
       have:∀ n,n≤M+ts.length→cntF (fun z=>(bL (M+ts.length) g).getD z false) n=cntF g n:=by
         intro n
         induction n with
         | zero => intro _; rfl
         | succ n ih =>
           intro hn
           unfold cntF
           rw [ih (by omega)]
           simp only [bL_at (f:=g) (show n < M+ts.length by omega)]
       exact this _ (Nat.le_refl _)
     cases m with
     | false =>
       refine ⟨.done (bL (M+ts.length) f),rfl,?_⟩
       congr 1
       refine qh0 fun z _=>?_
       rw [Bool.eq_iff_iff,decide_eq_true_iff]
       refine ⟨hf z,fun hz=>?_⟩
       rw [← hcd] at hz
       exact (q1j9 (S:=fun z=>f z=true) (fun e he=>by rw [hm rfl e he]) hz).2 hfi
     | true =>
       obtain ⟨m',f',hs,he⟩:=q1k8 hM hT hB hcp (c i) a b false f hf
       refine ⟨.next (m',bL (M+ts.length) f'),?_,⟨m',f',rfl,hs.up i hfi,hs.cls,fun e=>?_⟩,?_⟩
       · unfold qp8
         simp only [cond_true]
         rw [he]
         rfl
       · obtain ⟨_,h2,h3⟩:=hs.no e
         rw [h2]
         exact h3
       · simp only [ecnt,Bool.toNat_true]
         cases m' with
         | false =>
           obtain ⟨_,h2,_⟩:=hs.no rfl
           rw [h2]
           simp
         | true =>
           rcases hs.yes rfl with e | e
           · cases e
           · simp only [Bool.toNat_true]
             omega
 obtain ⟨_,ho,rfl⟩:=hL
 have eN:Int.toNat ((M:Int)+(ts.length:Int))=M+ts.length:=by omega
 have einit:(List.replicate (M+ts.length) false).set i true=bL (M+ts.length) (setT (fun _=>false) i):=by
   rw [qy8]; exact qt3
 unfold qo3
 simp (disch:=omega) only [eN,List.length_replicate,einit,ckB_ix,qg,qc,qk,ckB_mk,ckB_ne,bif_lt,qf,bif_le,qh,bif_eq,qe,bif_ne,qj,qi,qb,qa,bnd_ok,lk_inl,lk_inr,Int.toNat_natCast,decide_true]
 rw [ho]
 rfl
end Go.Proofs.YtclbndfjhjladaaGreat
