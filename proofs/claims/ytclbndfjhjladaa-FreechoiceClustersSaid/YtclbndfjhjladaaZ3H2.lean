/-
  Freechoice: classes by uniting.
-/
import Derived.Test.YtclbndfjhjladaaZ3X6
import Derived.Test.YtclbndfjhjladaaZ3H1
import Derived.KernelRfl
set_option linter.all false
namespace Go.Proofs.Ytclbndfjhjladaa
open Go.K Go.M
theorem Rep.root {c p:Nat→Nat} (hc:Rep c) (h:UF p c) (z:Nat):p (c z)=c z:=by
 have h1:=hc.idem z
 have h2:=h.par (c z)
 have h3:=h.le (c z)
 have h4:=hc.le (p (c z))
 omega
abbrev pL (N:Nat) (p:Nat→Nat):List Int:=tab N fun z=>(p z:Int)
theorem pL_set {N:Nat} {p:Nat→Nat} (i x:Nat):(pL N p).set i (x:Int)=pL N (setF p i x):=by
 rw [q1ec]
 refine qfp fun v _=>?_
 unfold setF
 split<;>rfl
theorem pL_at {N:Nat} {p:Nat→Nat} {i:Nat} (h:i < N):(pL N p).getD i 0=(p i:Int):=q1hb h
theorem pL_len (N:Nat) (p:Nat→Nat):(pL N p).length=N:=q1e7 _ _
section
variable {N:Nat} (hN:N≤1000) {c:Nat→Nat} (hc:Rep c) (P:Int)
include hN hc
theorem q19e {p:Nat→Nat} (h:UF p c) {i:Nat} (hi:i < N):∃ p',UF p' c∧q19 (i:Int) P (pL N p)=some ((c i:Int),P,pL N p'):=by
 have hL:∃ o,qei P ((i:Int),pL N p)=some o∧∃ p',UF p' c∧o=.inl ((c i:Int),pL N p'):=by
   refine qz7 (fun (s:Int×List Int)=>∃ (j:Nat) (q:Nat→Nat),s=((j:Int),pL N q)∧UF q c∧j < N∧c j=c i) (fun s=>s.1.toNat) _ _ ⟨i,p,rfl,h,hi,rfl⟩ (by unfold many; simp; omega) ?_
   rintro _ ⟨j,q,rfl,hq,hj,hcj⟩
   have hle:=hq.le j
   have hle2:=hq.le (q j)
   by_cases hr:q j=j
   · refine ⟨.done ((j:Int),pL N q),?_,q,hq,?_⟩
     · simp (disch:=omega) only [q3g,pL_len,pL_at,hr,ckB_ix,qb,q9,qd,ckB_mk,ckB_ne,bif_lt,qe,bif_le,qc,bif_eq,qf,bif_ne,qh,qg,q8,q5,bnd_ok,lk_inl,lk_inr,Int.toNat_natCast,decide_true]
     · rw [← hcj,hq.root j hr]
   · refine ⟨.next ((q (q j):Nat),pL N (setF q j (q (q j)))),?_,⟨_,_,rfl,hq.halve hr,by omega,by rw [hq.par,hq.par,hcj]⟩,?_⟩
     · simp (disch:=omega) only [q3g,pL_len,pL_at,pL_set,setF,if_true,ckB_ix,qb,q9,qd,ckB_mk,ckB_ne,bif_lt,qe,bif_le,qc,bif_eq,qf,bif_ne,qh,qg,q8,q5,bnd_ok,lk_inl,lk_inr,Int.toNat_natCast,decide_true]
     · simp only [Int.toNat_natCast]
       omega
 obtain ⟨_,ho,p',hp',rfl⟩:=hL
 refine ⟨p',hp',?_⟩
 unfold q19
 rw [ho]
 rfl
theorem q1ht {p:Nat→Nat} (h:UF p c) (hP:0≤P) {x t:Nat} (hx:x < N) (ht:P.toNat+t < N) :
   ∃ p',UF p' (mrg c (x,P.toNat+t))∧q1b (x:Int) (t:Int) P (pL N p)=some (P,pL N p'):=by
 obtain ⟨p1,h1,e1⟩:=q19e hN hc P h hx
 obtain ⟨p2,h2,e2⟩:=q19e hN hc P h1 ht
 have l1:=hc.le x
 have l2:=hc.le (P.toNat+t)
 refine ⟨_,h2.unite (e:=(x,P.toNat+t)) (Rep.root hc h2 _) (Rep.root hc h2 _),?_⟩
 have ep:P+(t:Int)=((P.toNat+t:Nat):Int):=by omega
 unfold q1b
 rw [ep,e1]
 simp only [bnd_ok]
 rw [e2]
 simp only [bnd_ok,pL_len,decide_true,qpj]
 rw [show max (c x:Int) (c (P.toNat+t):Int)=((max (c x) (c (P.toNat+t)):Nat):Int) by omega,show min (c x:Int) (c (P.toNat+t):Int)=((min (c x) (c (P.toNat+t)):Nat):Int) by omega]
 simp (disch:=omega) only [pL_len,pL_set,ckB_ix,qb,q9,qd,ckB_mk,ckB_ne,bif_lt,qe,bif_le,qc,bif_eq,qf,bif_ne,qh,qg,q8,q5,bnd_ok,lk_inl,lk_inr,Int.toNat_natCast,decide_true]
end
theorem q1b8 (n:Net) (h1:0≤n.1∧n.1≤100) (h2:n.2.1.length≤100):q3q n=some (n.1,pL (n.1.toNat+n.2.1.length) id):=by
 have eN:Int.toNat (n.1+(n.2.1.length:Int))=n.1.toNat+n.2.1.length:=by omega
 unfold q3q
 rw [eN]
 generalize hN:n.1.toNat+n.2.1.length=N
 have hL:qhe ((List.replicate N (0:Int)).length:Int) n.1 (0,List.replicate N (0:Int))=some (.inl (pL N id)):=by
   rw [List.length_replicate,q19u]
   refine q12h (fun i=>((i:Int),tab N fun z=>if z < i then (z:Int) else 0)) N (qc5 (by omega)) _ (fun i hi=>?_) ?_ _ ?_
   · have el:(tab N fun z=>if z < i then (z:Int) else 0).length=N:=q1e7 _ _
     simp (disch:=omega) only [q4c,el,q1ec,qy,ckB_ix,qb,q9,qd,ckB_mk,ckB_ne,bif_lt,qe,bif_le,qc,bif_eq,qf,bif_ne,qh,qg,q8,q5,bnd_ok,lk_inl,lk_inr,Int.toNat_natCast,decide_true]
     congr 3
     refine qfp fun v _=>?_
     by_cases e:v=i
     · rw [if_pos e,if_pos (by omega),e]
     · rw [if_neg e]
       by_cases e2:v < i
       · rw [if_pos e2,if_pos (by omega)]
       · rw [if_neg e2,if_neg (by omega)]
   · simp (disch:=omega) only [q4c,ckB_ix,qb,q9,qd,ckB_mk,ckB_ne,bif_lt,qe,bif_le,qc,bif_eq,qf,bif_ne,qh,qg,q8,q5,bnd_ok,lk_inl,lk_inr,Int.toNat_natCast,decide_true]
     congr 2
     exact qfp fun v hv=>if_pos hv
   · congr 1
 rw [hL]
 simp (disch:=omega) only [ckB_ix,qb,q9,qd,ckB_mk,ckB_ne,bif_lt,qe,bif_le,qc,bif_eq,qf,bif_ne,qh,qg,q8,q5,bnd_ok,lk_inl,lk_inr,Int.toNat_natCast,decide_true]
def lstB (out:Bool) (t:Trans):List Int:=bif out then t.2.1++t.2.2.1 else t.2.1
def edT (M t:Nat) (l:List Int):List (Nat×Nat):=l.map fun x=>(x.toNat,M+t)
def edA (M:Nat) (out:Bool) (ts:List Trans) (i:Nat):List (Nat×Nat):=(List.range i).flatMap fun t=>edT M t (lstB out (ts.getD t Trans.z))
theorem q1i4 (M:Nat) (out:Bool) (ts:List Trans) (i:Nat):edA M out ts (i+1)=edA M out ts i++edT M i (lstB out (ts.getD i Trans.z)):=by
 unfold edA
 rw [List.range_succ,List.flatMap_append]
 simp
theorem q1h4 (M t:Nat) (l:List Int) (i:Nat) (h:i < l.length):edT M t (l.take (i+1))=edT M t (l.take i)++[((l.getD i 0).toNat,M+t)]:=by
 unfold edT
 rw [qcq l i 0 h,List.map_append]
 rfl
theorem q1hg (es:List (Nat×Nat)):∀ {c:Nat→Nat},Rep c→Rep (es.foldl mrg c):=by
 induction es with
 | nil => intro c h; exact h
 | cons e es ih => intro c h; exact ih (h.mrg e)
theorem q1hy (a b:List (Nat×Nat)):clsF (a++b)=b.foldl mrg (clsF a):=by unfold clsF; rw [List.foldl_append]
section
variable {N M:Nat} (hN:N≤1000)
include hN
theorem q1ft {E R:Type} {step:Int×Int×List Int→Option (LR (Int×Int×List Int) E R)} {t:Nat} (ht:M+t < N) (l:List Int) (hl:l.length≤1000) (hb:∀ x∈l,0≤x∧x < (M:Int)) (fin:Int→List Int→E)
   (h:∀ (j:Nat) (L:List Int),j < l.length→step ((j:Int),(M:Int),L)=bnd (q1b (l.getD j 0) (t:Int) (M:Int) L) fun r=>ckB (decide (r.2.length=L.length)) (some (.next (((j+1:Nat):Int),r.1,r.2))))
   (hd:∀ L,step ((l.length:Int),(M:Int),L)=some (.done (fin (M:Int) L))) {c p:Nat→Nat} (hc:Rep c) (hp:UF p c):∃ p',UF p' ((edT M t l).foldl mrg c)∧loopM step (0,(M:Int),pL N p)=some (.inl (fin (M:Int) (pL N p'))):=by
 have hL:∃ o,loopM step (0,(M:Int),pL N p)=some o∧∃ p',UF p' ((edT M t l).foldl mrg c)∧o=.inl (fin (M:Int) (pL N p')):=by
   refine qz7 (fun (s:Int×Int×List Int)=>∃ (j:Nat) (q:Nat→Nat),s=((j:Int),(M:Int),pL N q)∧j≤l.length∧UF q ((edT M t (l.take j)).foldl mrg c)) (fun s=>l.length - s.1.toNat) _ _ ⟨0,p,rfl,Nat.zero_le _,hp⟩ (by unfold many; simp; omega) ?_
   rintro _ ⟨j,q,rfl,hj,hq⟩
   by_cases e:j=l.length
   · subst e
     exact ⟨.done (fin (M:Int) (pL N q)),hd _,q,by rwa [List.take_length] at hq,rfl⟩
   · have hjl:j < l.length:=by omega
     obtain ⟨h1,h2⟩:=hb _ (qz 0 hjl)
     obtain ⟨q',hq',e'⟩:=q1ht hN (q1hg (edT M t (l.take j)) hc) (M:Int) hq (by omega) (x:=(l.getD j 0).toNat) (t:=t) (by omega) (by simpa using ht)
     rw [Int.toNat_of_nonneg h1] at e'
     refine ⟨.next (((j+1:Nat):Int),(M:Int),pL N q'),?_,⟨j+1,q',rfl,by omega,?_⟩,?_⟩
     · rw [h j _ hjl,e']
       simp only [bnd_ok,pL_len,decide_true,qpj]
     · rw [q1h4 M t l j hjl,List.foldl_append]
       simpa using hq'
     · simp only [Int.toNat_natCast]
       omega
 obtain ⟨_,ho,p',hp',rfl⟩:=hL
 exact ⟨p',hp',ho⟩
end
def InB (M:Nat) (ts:List Trans):Prop:=∀ t∈ts,(t.2.1.length≤60∧t.2.2.1.length≤60)∧(∀ x∈t.2.1,0≤x∧x < (M:Int))∧∀ x∈t.2.2.1,0≤x∧x < (M:Int)
theorem InB.lst {M:Nat} {ts:List Trans} (h:InB M ts) {i:Nat} (hi:i < ts.length) (out:Bool):(lstB out (ts.getD i Trans.z)).length≤120∧∀ x∈lstB out (ts.getD i Trans.z),0≤x∧x < (M:Int):=by
 obtain ⟨⟨h1,h2⟩,h3,h4⟩:=h _ (qz Trans.z hi)
 cases out with
 | false => exact ⟨by show (ts.getD i Trans.z).2.1.length≤120; omega,h3⟩
 | true =>
   refine ⟨by show ((ts.getD i Trans.z).2.1++(ts.getD i Trans.z).2.2.1).length≤120; rw [List.length_append]; omega,fun x hx=>?_⟩
   rcases List.mem_append.1 (show x∈(ts.getD i Trans.z).2.1++(ts.getD i Trans.z).2.2.1 from hx) with hx | hx
   · exact h3 x hx
   · exact h4 x hx
section
variable {M:Nat} {ts:List Trans} (hM:M≤100) (hT:ts.length≤100) (hB:InB M ts)
include hM hT hB
theorem q1ce (a b c:Int):∃ p,UF p (clsF (edA M false ts ts.length))∧qcn ts (ts.length:Int) a ts b c (0,(M:Int),pL (M+ts.length) id)=some (.inl ((M:Int),pL (M+ts.length) p)):=by
 have hL:∃ o,qcn ts (ts.length:Int) a ts b c (0,(M:Int),pL (M+ts.length) id)=some o∧∃ p,UF p (clsF (edA M false ts ts.length))∧o=.inl ((M:Int),pL (M+ts.length) p):=by
   refine qz7 (fun (s:Int×Int×List Int)=>∃ (j:Nat) (q:Nat→Nat),s=((j:Int),(M:Int),pL (M+ts.length) q)∧j≤ts.length∧UF q (clsF (edA M false ts j))) (fun s=>ts.length - s.1.toNat) _ _ ⟨0,id,rfl,Nat.zero_le _,UF.id⟩ (by unfold many; simp; omega) ?_
   rintro _ ⟨j,q,rfl,hj,hq⟩
   by_cases e:j=ts.length
   · subst e
     refine ⟨.done ((M:Int),pL (M+ts.length) q),?_,q,hq,rfl⟩
     simp (disch:=omega) only [q58,ckB_ix,qb,q9,qd,ckB_mk,ckB_ne,bif_lt,qe,bif_le,qc,bif_eq,qf,bif_ne,qh,qg,q8,q5,bnd_ok,lk_inl,lk_inr,Int.toNat_natCast,decide_true]
   · have hjl:j < ts.length:=by omega
     obtain ⟨h1,h2⟩:=hB.lst hjl false
     have hl60:=(hB _ (qz Trans.z hjl)).1.1
     have s1:∀ (k:Nat) (L:List Int),k < (ts.getD j Trans.z).2.1.length→q1l (R:=LR (Int×Int×List Int) (Int×List Int) (List St8)) (j:Int) ts (ts.length:Int) (j:Int) (ts.getD j Trans.z).2.1 ((ts.getD j Trans.z).2.1.length:Int) a ts b c (k:Int) (M:Int) L (fun a'=>some (.next a')) (fun e=>some (.done e)) (fun r=>some (.ret r))=bnd (q1b ((ts.getD j Trans.z).2.1.getD k 0) (j:Int) (M:Int) L) fun r=>ckB (decide (r.2.length=L.length)) (some (.next (((k+1:Nat):Int),r.1,r.2))):=fun k L hk=>by
       simp (disch:=omega) only [q1l,qy,ckB_ix,qb,q9,qd,ckB_mk,ckB_ne,bif_lt,qe,bif_le,qc,bif_eq,qf,bif_ne,qh,qg,q8,q5,bnd_ok,lk_inl,lk_inr,Int.toNat_natCast,decide_true]
     have s2:∀ L:List Int,q1l (R:=LR (Int×Int×List Int) (Int×List Int) (List St8)) (j:Int) ts (ts.length:Int) (j:Int) (ts.getD j Trans.z).2.1 ((ts.getD j Trans.z).2.1.length:Int) a ts b c ((ts.getD j Trans.z).2.1.length:Int) (M:Int) L (fun a'=>some (.next a')) (fun e=>some (.done e)) (fun r=>some (.ret r))=some (.done ((M:Int),L)):=fun L=>by
       simp (disch:=omega) only [q1l,ckB_ix,qb,q9,qd,ckB_mk,ckB_ne,bif_lt,qe,bif_le,qc,bif_eq,qf,bif_ne,qh,qg,q8,q5,bnd_ok,lk_inl,lk_inr,Int.toNat_natCast,decide_true]
     obtain ⟨q',hq',e'⟩:=q1ft (N:=M+ts.length) (M:=M) (by omega) (step:=fun (x:Int×Int×List Int)=>q1l (R:=LR (Int×Int×List Int) (Int×List Int) (List St8)) (j:Int) ts (ts.length:Int) (j:Int) (ts.getD j Trans.z).2.1 ((ts.getD j Trans.z).2.1.length:Int) a ts b c x.1 x.2.1 x.2.2 (fun a'=>some (.next a')) (fun e=>some (.done e)) (fun r=>some (.ret r))) (t:=j) (by omega) (ts.getD j Trans.z).2.1 (by omega) h2 (fun x y=>(x,y)) s1 s2 (q12n (edA M false ts j)) hq
     refine ⟨.next (((j+1:Nat):Int),(M:Int),pL (M+ts.length) q'),?_,⟨j+1,q',rfl,by omega,?_⟩,?_⟩
     · simp (disch:=omega) only [q58,ckB_ix,qb,q9,qd,ckB_mk,ckB_ne,bif_lt,qe,bif_le,qc,bif_eq,qf,bif_ne,qh,qg,q8,q5,bnd_ok,lk_inl,lk_inr,Int.toNat_natCast,decide_true]
       have e2:ql0 (j:Int) ts (ts.length:Int) (j:Int) (ts.getD j Trans.z).2.1 ((ts.getD j Trans.z).2.1.length:Int) a ts b c (0,(M:Int),pL (M+ts.length) q)=_:=e'
       rw [e2]
       simp (disch:=omega) only [ckB_ix,qb,q9,qd,ckB_mk,ckB_ne,bif_lt,qe,bif_le,qc,bif_eq,qf,bif_ne,qh,qg,q8,q5,bnd_ok,lk_inl,lk_inr,Int.toNat_natCast,decide_true]
       rw [qy]
     · rw [q1i4,q1hy]
       exact hq'
     · simp only [Int.toNat_natCast]
       omega
 obtain ⟨_,ho,p',hp',rfl⟩:=hL
 exact ⟨p',hp',ho⟩
end
end Go.Proofs.Ytclbndfjhjladaa
