/-
  Freechoice: classes by uniting: root and unite.
-/
import Derived.Test.YtclbndfjhjladaaGreatZ3X6
import Derived.Test.YtclbndfjhjladaaGreatZ3G1
set_option linter.all false
namespace Go.Proofs.YtclbndfjhjladaaGreat
open Go.K Go.M
theorem Rep.root {c p:Nat→Nat} (hc:Rep c) (h:UF p c) (z:Nat):p (c z)=c z:=by
 have h1:=hc.idem z
 have h2:=h.par (c z)
 have h3:=h.le (c z)
 have h4:=hc.le (p (c z))
 omega
abbrev pL (N:Nat) (p:Nat→Nat):List Int:=tab N fun z=>(p z:Int)
theorem pL_set {N:Nat} {p:Nat→Nat} (i x:Nat):(pL N p).set i (x:Int)=pL N (setF p i x):=by
 rw [qt3]
 refine qh0 fun v _=>?_
 unfold setF
 split<;>rfl
theorem pL_at {N:Nat} {p:Nat→Nat} {i:Nat} (h:i < N):(pL N p).getD i 0=(p i:Int):=q1fs h
theorem pL_len (N:Nat) (p:Nat→Nat):(pL N p).length=N:=q1c2 _ _
section
variable {N:Nat} (hN:N≤1000) {c:Nat→Nat} (hc:Rep c) (P:Int)
include hN hc
theorem q1da {p:Nat→Nat} (h:UF p c) {i:Nat} (hi:i < N):∃ p',UF p' c∧q1j (i:Int) P (pL N p)=some ((c i:Int),P,pL N p'):=by
 have hL:∃ o,qf7 P ((i:Int),pL N p)=some o∧∃ p',UF p' c∧o=.inl ((c i:Int),pL N p'):=by
   refine q6s (fun (s:Int×List Int)=>∃ (j:Nat) (q:Nat→Nat),s=((j:Int),pL N q)∧UF q c∧j < N∧c j=c i) (fun s=>s.1.toNat) _ _ ⟨i,p,rfl,h,hi,rfl⟩ (by unfold many; simp; omega) ?_
   rintro _ ⟨j,q,rfl,hq,hj,hcj⟩
   have hle:=hq.le j
   have hle2:=hq.le (q j)
   by_cases hr:q j=j
   · refine ⟨.done ((j:Int),pL N q),?_,q,hq,?_⟩
     · simp (disch:=omega) only [q3q,pL_len,pL_at,hr,ckB_ix,qg,qc,qk,ckB_mk,ckB_ne,bif_lt,qf,bif_le,qh,bif_eq,qe,bif_ne,qj,qi,qb,qa,bnd_ok,lk_inl,lk_inr,Int.toNat_natCast,decide_true]
     · rw [← hcj,hq.root j hr]
   · refine ⟨.next ((q (q j):Nat),pL N (setF q j (q (q j)))),?_,⟨_,_,rfl,hq.halve hr,by omega,by rw [hq.par,hq.par,hcj]⟩,?_⟩
     · simp (disch:=omega) only [q3q,pL_len,pL_at,pL_set,setF,if_true,ckB_ix,qg,qc,qk,ckB_mk,ckB_ne,bif_lt,qf,bif_le,qh,bif_eq,qe,bif_ne,qj,qi,qb,qa,bnd_ok,lk_inl,lk_inr,Int.toNat_natCast,decide_true]
     · simp only [Int.toNat_natCast]
       omega
 obtain ⟨_,ho,p',hp',rfl⟩:=hL
 refine ⟨p',hp',?_⟩
 unfold q1j
 rw [ho]
 rfl
theorem q1lg {p:Nat→Nat} (h:UF p c) (hP:0≤P) {x t:Nat} (hx:x < N) (ht:P.toNat+t < N) :
   ∃ p',UF p' (mrg c (x,P.toNat+t))∧q1k (x:Int) (t:Int) P (pL N p)=some (P,pL N p'):=by
 obtain ⟨p1,h1,e1⟩:=q1da hN hc P h hx
 obtain ⟨p2,h2,e2⟩:=q1da hN hc P h1 ht
 have l1:=hc.le x
 have l2:=hc.le (P.toNat+t)
 refine ⟨_,h2.unite (e:=(x,P.toNat+t)) (Rep.root hc h2 _) (Rep.root hc h2 _),?_⟩
 have ep:P+(t:Int)=((P.toNat+t:Nat):Int):=by omega
 unfold q1k
 rw [ep,e1]
 simp only [bnd_ok]
 rw [e2]
 simp only [bnd_ok,pL_len,decide_true,qqm]
 rw [show max (c x:Int) (c (P.toNat+t):Int)=((max (c x) (c (P.toNat+t)):Nat):Int) by omega,show min (c x:Int) (c (P.toNat+t):Int)=((min (c x) (c (P.toNat+t)):Nat):Int) by omega]
 simp (disch:=omega) only [pL_len,pL_set,ckB_ix,qg,qc,qk,ckB_mk,ckB_ne,bif_lt,qf,bif_le,qh,bif_eq,qe,bif_ne,qj,qi,qb,qa,bnd_ok,lk_inl,lk_inr,Int.toNat_natCast,decide_true]
end
theorem q1ep (n:Net) (h1:0≤n.1∧n.1≤100) (h2:n.2.1.length≤100):q3y n=some (n.1,pL (n.1.toNat+n.2.1.length) id):=by
 have eN:Int.toNat (n.1+(n.2.1.length:Int))=n.1.toNat+n.2.1.length:=by omega
 unfold q3y
 rw [eN]
 generalize hN:n.1.toNat+n.2.1.length=N
 have hL:qi5 ((List.replicate N (0:Int)).length:Int) n.1 (0,List.replicate N (0:Int))=some (.inl (pL N id)):=by
   rw [List.length_replicate,qy8]
   refine qh7 (fun i=>((i:Int),tab N fun z=>if z < i then (z:Int) else 0)) N (q24 (by omega)) _ (fun i hi=>?_) ?_ _ ?_
   · have el:(tab N fun z=>if z < i then (z:Int) else 0).length=N:=q1c2 _ _
     simp (disch:=omega) only [q4j,el,qt3,qp,ckB_ix,qg,qc,qk,ckB_mk,ckB_ne,bif_lt,qf,bif_le,qh,bif_eq,qe,bif_ne,qj,qi,qb,qa,bnd_ok,lk_inl,lk_inr,Int.toNat_natCast,decide_true]
     congr 3
     refine qh0 fun v _=>?_
     by_cases e:v=i
     · rw [if_pos e,if_pos (by omega),e]
     · rw [if_neg e]
       by_cases e2:v < i
       · rw [if_pos e2,if_pos (by omega)]
       · rw [if_neg e2,if_neg (by omega)]
   · simp (disch:=omega) only [q4j,ckB_ix,qg,qc,qk,ckB_mk,ckB_ne,bif_lt,qf,bif_le,qh,bif_eq,qe,bif_ne,qj,qi,qb,qa,bnd_ok,lk_inl,lk_inr,Int.toNat_natCast,decide_true]
     congr 2
     exact qh0 fun v hv=>if_pos hv
   · congr 1
 rw [hL]
 simp (disch:=omega) only [ckB_ix,qg,qc,qk,ckB_mk,ckB_ne,bif_lt,qf,bif_le,qh,bif_eq,qe,bif_ne,qj,qi,qb,qa,bnd_ok,lk_inl,lk_inr,Int.toNat_natCast,decide_true]
end Go.Proofs.YtclbndfjhjladaaGreat
