/-
  Flow: what the lists of minimal invariants are; sums of minimal invariants and unions of supports; the law FlowCombines.
-/
import Derived.Test.YthakmiiaejhlbaaZ5F11
set_option linter.all false
namespace Go.Proofs.Ythakmiiaejhlbaa
open Go.K Go.M
theorem u8l_of {xs:List Int} (h:Ty.good (.slice (.int .u8)) xs) (i:Nat):0≤xs.getD i 0∧xs.getD i 0≤255:=by
 by_cases hi:i < xs.length
 · exact u8_of (h.2 _ (qs (0:Int) hi))
 · rw [List.getD_eq_getElem?_getD,List.getElem?_eq_none (by omega)]
   show (0:Int)≤0∧(0:Int)≤255
   omega
structure Mins (n c:Nat) (A:Nat→Nat→Int) (d:Rw):Prop where
 len:∀ x∈d,x.length=n
 min:∀ x∈d,MinS n c A (fn x)
 prim:∀ x∈d,Prim n (fn x)
 cov:∀ y,MinS n c A y→Prim n y→∃ x∈d,EqN n (fn x) y
 pw:d.Pairwise fun x y=>¬ Sup n (fn x) (fn y)∧¬ Sup n (fn y) (fn x)
 srt:d.Pairwise LeL
theorem q12j (d:Rw):(srt d).Pairwise LeL:=by
 refine (List.pairwise_mergeSort (le:=fun x y=>!ltL y x) ?_ ?_ d).imp fun h=>by unfold LeL; rw [← Bool.not_eq_true']; exact h
 · intro a b c h1 h2
   rw [Bool.not_eq_true'] at h1 h2 ⊢
   exact qc1.ntrans _ _ _ h2 h1
 · intro a b
   cases h1:ltL b a with
   | false => rfl
   | true =>
     cases h2:ltL a b with
     | false => rfl
     | true =>
       have:=qmq _ _ _ h1 h2
       rw [qx4] at this
       cases this
theorem qxe {n m c:Nat} {A:Nat→Nat→Int} {L:List RowE} (hG:GoodE n m c A L) (h:(resE (mdE L)).2=0):Mins n c A (resE (mdE L)).1:=by
 unfold resE at h ⊢
 cases h1:decide (1000 < (mdE L).length) with
 | true => rw [h1] at h; exact absurd (show (5:Int)=0 from h) (by decide)
 | false =>
   rw [h1] at h
   have hp:=quw (mdE L)
   cases h2:(srt (mdE L)).any bigL with
   | true => rw [h2] at h; exact absurd (show (6:Int)=0 from h) (by decide)
   | false =>
     have hm:∀ x,x∈srt (mdE L)→∃ r∈L,r.2=x:=fun x hx=>by
       obtain ⟨r,hr,e⟩:=qsy.1 (hp.mem_iff.1 hx)
       exact ⟨r,hr,e⟩
     refine ⟨fun x hx=>?_,fun x hx=>?_,fun x hx=>?_,fun y hy hP=>?_,?_,q12j _⟩
     · obtain ⟨r,hr,rfl⟩:=hm x hx; exact (hG.row r hr).len
     · obtain ⟨r,hr,rfl⟩:=hm x hx; exact hG.min r hr
     · obtain ⟨r,hr,rfl⟩:=hm x hx; exact (hG.row r hr).prim
     · obtain ⟨r,hr,he⟩:=hG.cov y hy hP
       exact ⟨r.2,hp.mem_iff.2 (qsy.2 ⟨r,hr,rfl⟩),he⟩
     · refine (hp.symm.pairwise_iff (fun h=>⟨h.2,h.1⟩)).1 ?_
       unfold mdE
       rw [List.pairwise_map]
       exact hG.pw
theorem q14d {n:Net} (hf:FewN n) (h:(outP n).2=0):Mins n.1.toNat n.2.1.length (AP n) (outP n).1:=by
 obtain ⟨hv,hl,h1,h2,h3⟩:=qxx hf h
 unfold outP at h ⊢
 rw [hv,hl] at h ⊢
 exact qxe (qz5 h1) h
theorem q13x {n:Net} (hf:FewN n) (h:(outT n).2=0):Mins n.2.1.length n.1.toNat (AT n) (outT n).1:=by
 obtain ⟨hv,hl,h1,h2,h3⟩:=q13s hf h
 unfold outT at h ⊢
 rw [hv,hl] at h ⊢
 exact qxe (qz2 n) h
theorem qjb {l:List Int}:someB l=true↔NZ l.length (fn l):=by
 unfold someB NZ
 rw [List.any_eq_true]
 constructor
 · rintro ⟨x,hx,h⟩
   obtain ⟨i,hi,rfl⟩:=qyy 0 hx
   rw [Bool.not_eq_true'] at h
   exact ⟨i,hi,of_decide_eq_false h⟩
 · rintro ⟨i,hi,h⟩
   exact ⟨l.getD i 0,qs 0 hi,by rw [Bool.not_eq_true']; exact decide_eq_false h⟩
theorem q10f {n:Net} {y:List Int} (hy:y.length=n.1.toNat) (h0:∀ i,0≤y.getD i 0):allP n y=true↔Sol n.1.toNat n.2.1.length (AP n) (fn y):=by
 unfold allP Sol
 rw [List.all_eq_true]
 constructor
 · intro h
   refine ⟨fun i _=>h0 i,fun j hj=>?_⟩
   have:=of_decide_eq_true (h j (List.mem_range.2 hj))
   unfold psum at this
   rw [hy] at this
   exact this
 · intro h t ht
   refine decide_eq_true ?_
   have:=h.2 t (List.mem_range.1 ht)
   unfold psum
   rw [hy]
   exact this
theorem qyq {n:Net} {x:List Int} (h0:∀ i,0≤x.getD i 0):someB (effE n x)=false↔Sol n.2.1.length n.1.toNat (AT n) (fn x):=by
 constructor
 · intro h
   refine ⟨fun i _=>h0 i,fun p hp=>?_⟩
   by_cases hc:esum n x p n.2.1.length=0
   · exact hc
   · have:someB (effE n x)=true:=qjb.2 ⟨p,by rw [quk]; exact hp,by unfold fn effE; rw [q4l hp]; exact hc⟩
     rw [h] at this
     exact absurd this (by decide)
 · intro h
   cases hc:someB (effE n x) with
   | false => rfl
   | true =>
     obtain ⟨p,hp,hx⟩:=qjb.1 hc
     rw [quk] at hp
     unfold fn effE at hx
     rw [q4l hp] at hx
     exact absurd (h.2 p hp) hx
theorem q17n {n:Net} (hv:validN n=true) {y:List Int} (hy:y.length=n.1.toNat) (h0:∀ i,0≤y.getD i 0) (hs:Sol n.1.toNat n.2.1.length (AP n) (fn y)):isP n y=(false,1)∨isP n y=(someB y,0):=by
 unfold isP
 rw [hv]
 cases numB n.1 y with
 | false => exact .inl rfl
 | true => rw [(q10f hy h0).2 hs]; exact .inr rfl
theorem q16h {n:Net} (hv:validN n=true) {x:List Int} (h0:∀ i,0≤x.getD i 0) (hs:Sol n.2.1.length n.1.toNat (AT n) (fn x)):isT n x=(false,1)∨isT n x=(someB x,0):=by
 unfold isT
 rw [hv]
 cases numB (n.2.1.length:Int) x with
 | false => exact .inl rfl
 | true =>
   rw [(qyq h0).2 hs]
   refine .inr ?_
   cases someB x<;>rfl
theorem q15d {n:Net} {y:List Int} (h:isP n y=(true,0)):y.length=n.1.toNat∧Sol n.1.toNat n.2.1.length (AP n) (fn y)∧NZ n.1.toNat (fn y):=by
 unfold isP at h
 cases hv:validN n with
 | false => rw [hv] at h; cases h
 | true =>
   rw [hv] at h
   cases hn:numB n.1 y with
   | false => rw [hn] at h; cases h
   | true =>
     rw [hn] at h
     obtain ⟨n1,n2⟩:=qq3 hn
     have hy:y.length=n.1.toNat:=by omega
     cases ha:allP n y with
     | false => rw [ha] at h; cases h
     | true =>
       rw [ha] at h
       have:=qjb.1 (congrArg Prod.fst h)
       rw [hy] at this
       exact ⟨hy,(q10f hy fun i=>(n2 i).1).1 ha,this⟩
theorem q15b {n:Net} {x:List Int} (h:isT n x=(true,0)):x.length=n.2.1.length∧Sol n.2.1.length n.1.toNat (AT n) (fn x)∧NZ n.2.1.length (fn x):=by
 unfold isT at h
 cases hv:validN n with
 | false => rw [hv] at h; cases h
 | true =>
   rw [hv] at h
   cases hn:numB (n.2.1.length:Int) x with
   | false => rw [hn] at h; cases h
   | true =>
     rw [hn] at h
     obtain ⟨n1,n2⟩:=qq3 hn
     have hy:x.length=n.2.1.length:=by omega
     have h:=congrArg Prod.fst h
     have h:(someB x&&!someB (effE n x))=true:=h
     rw [Bool.and_eq_true,Bool.not_eq_true'] at h
     have:=qjb.1 h.1
     rw [hy] at this
     exact ⟨hy,(qyq fun i=>(n2 i).1).1 h.2,this⟩
section
variable (times:List Int)
def cS (r:Nat):Int:=if r < times.length then Int.tmod (times.getD r 0) 4 else 0
def sS (i:Nat):Bool:=(List.range i).any fun r=>decide (0 < cS times r)
def lS (l:Rw) (i j:Nat):Int:=sumN (fun r=>cS times r*(l.getD r []).getD j 0) i
variable (ht:∀ i,0≤times.getD i 0)
include ht in
theorem cS_bd (r:Nat):0≤cS times r∧cS times r≤3:=by
 unfold cS
 split
 · have h1:=Int.tmod_nonneg 4 (ht r)
   have h2:=Int.tmod_lt_of_pos (times.getD r 0) (show (0:Int) < 4 by decide)
   omega
 · omega
theorem q178 (i:Nat):sS times (i+1)=(sS times i||decide (0 < cS times i)):=by
 unfold sS
 rw [List.range_succ,List.any_append,List.any_cons,List.any_nil,Bool.or_false]
variable (l:Rw) (hl:l.length≤1000) (m:Nat) (hm:m≤60) (hr:∀ x∈l,x.length=m∧∀ i,0≤x.getD i 0∧x.getD i 0≤1048576)
include ht hl hr in
theorem lS_bd (i j:Nat) (hi:i≤l.length):0≤lS times l i j∧lS times l i j≤3145728000:=by
 have h1:0≤lS times l i j∧lS times l i j≤i*3145728:=by
   clear hl
   induction i with
   | zero => exact ⟨Int.le_refl _,by show (0:Int)≤_; omega⟩
   | succ i ih =>
     have h:=ih (by omega)
     have e:lS times l (i+1) j=lS times l i j+cS times i*(l.getD i []).getD j 0:=rfl
     have hc:=cS_bd times ht i
     have hx:=(hr _ (qs [] (show i < l.length by omega))).2 j
     have h0:=Int.mul_nonneg hc.1 hx.1
     have h2:cS times i*(l.getD i []).getD j 0≤3*1048576:=Int.mul_le_mul hc.2 hx.2 hx.1 (by decide)
     rw [e]
     omega
 omega
include ht hl hm hr in
theorem q15p (i:Nat) (hi:i < l.length) (N:Int) (sm:Bool) (v1 v2:Int) (vv:Rw) :
   qeh N times sm (cS times i) vv v1 v2 (l.getD i []) ((l.getD i []).length:Int) (0,tab m fun j=>lS times l i j)=some (.inl (tab m fun j=>lS times l (i+1) j)):=by
 obtain ⟨hx,hb⟩:=hr _ (qs [] hi)
 have hc:=cS_bd times ht i
 have e:∀ j,lS times l (i+1) j=lS times l i j+cS times i*(l.getD i []).getD j 0:=fun j=>rfl
 refine q2n (fun k:Nat=>((k:Int),tab m fun j=>if j < k then lS times l (i+1) j else lS times l i j)) (l.getD i []).length (q1o (by omega)) _ (fun k hk=>?_) ?_ _ ?_
 · have hk':k < m:=by omega
   have hbk:=hb k
   have h0:=lS_bd times ht l hl m hr i k (by omega)
   have h1:=lS_bd times ht l hl m hr (i+1) k (by omega)
   rw [e] at h1
   have h2:=Int.mul_nonneg hc.1 hbk.1
   have hg:(tab m fun j=>if j < k then lS times l (i+1) j else lS times l i j).getD k 0=lS times l i k:=by
     rw [q4l hk',if_neg (by omega)]
   have hL:(tab m fun j=>if j < k then lS times l (i+1) j else lS times l i j).length=m:=q2d _ _
   simp (disch:=omega) only [q61,hg,hL,ckB_ix,q6,q5,q7,ckB_mk,ckB_ne,bif_lt,qb,bif_le,qc,bif_eq,qa,bif_ne,q8,q9,q4,q0,bnd_ok,lk_inl,lk_inr,Int.toNat_natCast,decide_true]
   rw [qg,qo7]
   refine congrArg (fun t=>some (LR.next (((k+1:Nat):Int),t))) (q4u fun j hj=>?_)
   by_cases h3:j=k
   · rw [if_pos h3,if_pos (by omega),h3,e]
   · rw [if_neg h3]
     by_cases h4:j < k
     · rw [if_pos h4,if_pos (by omega)]
     · rw [if_neg h4,if_neg (by omega)]
 · simp (disch:=omega) only [q61,ckB_ix,q6,q5,q7,ckB_mk,ckB_ne,bif_lt,qb,bif_le,qc,bif_eq,qa,bif_ne,q8,q9,q4,q0,bnd_ok,lk_inl,lk_inr,Int.toNat_natCast,decide_true]
   refine congrArg (fun t=>some (LR.done t)) (q4u fun j hj=>?_)
   rw [if_pos (by omega)]
 · refine congrArg (fun t=>((0:Int),t)) (q4u fun j hj=>?_)
   rw [if_neg (by omega)]
include ht hl hm hr in
theorem q128:q5l l (m:Int) times=some (sS times l.length,tab m fun j=>lS times l l.length j):=by
 have hL:qev (m:Int) times l (l.length:Int) (false,0,List.replicate m (0:Int))=some (.inl (sS times l.length,tab m fun j=>lS times l l.length j)):=by
   refine q2n (fun i:Nat=>(sS times i,(i:Int),tab m fun j=>lS times l i j)) l.length (q1o (by omega)) _ (fun i hi=>?_) ?_ _ ?_
   · obtain ⟨hx,hb⟩:=hr _ (qs [] hi)
     have hc:=cS_bd times ht i
     have e:=q15p times ht l hl m hm hr i hi (m:Int) (sS times i) (l.length:Int) (i:Int) l
     have eT:q72 (m:Int) times (sS times i) (l.getD i []) (cS times i) l (l.length:Int) (i:Int) (tab m fun j=>lS times l i j)=some (.inl (sS times (i+1),tab m fun j=>lS times l (i+1) j)):=by
       unfold q72 q9e
       rw [e,q178,bnd_ok]
       cases sS times i<;>rfl
     by_cases h:i < times.length
     · have ec:Int.tmod (times.getD i 0) 4=cS times i:=by unfold cS; rw [if_pos h]
       simp (disch:=omega) only [q3w,ec,eT,ckB_ix,q6,q5,q7,ckB_mk,ckB_ne,bif_lt,qb,bif_le,qc,bif_eq,qa,bif_ne,q8,q9,q4,q0,bnd_ok,lk_inl,lk_inr,Int.toNat_natCast,decide_true]
       rw [qg]
     · have ec:(0:Int)=cS times i:=by unfold cS; rw [if_neg h]
       have eT':=eT
       rw [← ec] at eT'
       simp (disch:=omega) only [q3w,eT',ckB_ix,q6,q5,q7,ckB_mk,ckB_ne,bif_lt,qb,bif_le,qc,bif_eq,qa,bif_ne,q8,q9,q4,q0,bnd_ok,lk_inl,lk_inr,Int.toNat_natCast,decide_true]
       rw [qg]
   · simp (disch:=omega) only [q3w,ckB_ix,q6,q5,q7,ckB_mk,ckB_ne,bif_lt,qb,bif_le,qc,bif_eq,qa,bif_ne,q8,q9,q4,q0,bnd_ok,lk_inl,lk_inr,Int.toNat_natCast,decide_true]
   · rw [qsz]; rfl
 unfold q5l
 rw [show Int.toNat (m:Int)=m by omega,hL]
 simp (disch:=omega) only [ckB_ix,q6,q5,q7,ckB_mk,ckB_ne,bif_lt,qb,bif_le,qc,bif_eq,qa,bif_ne,q8,q9,q4,q0,bnd_ok,lk_inl,lk_inr,Int.toNat_natCast,decide_true]
include ht hr in
theorem lS_sol {c:Nat} {A:Nat→Nat→Int} (hM:Mins m c A l) (i:Nat) (hi:i≤l.length):Sol m c A fun j=>lS times l i j:=by
 refine ⟨fun j _=>?_,fun j hj=>?_⟩
 · induction i with
   | zero => exact Int.le_refl _
   | succ i ih =>
     have h:0≤lS times l i j:=ih (by omega)
     have e:lS times l (i+1) j=lS times l i j+cS times i*(l.getD i []).getD j 0:=rfl
     have hc:=cS_bd times ht i
     have hx:=(hr _ (qs [] (show i < l.length by omega))).2 j
     have h0:=Int.mul_nonneg hc.1 hx.1
     show 0≤lS times l (i+1) j
     rw [e]
     omega
 · induction i with
   | zero => exact q7w fun k _=>Int.zero_mul _
   | succ i ih =>
     have h:=ih (by omega)
     have hs:=(hM.min _ (qs [] (show i < l.length by omega))).1.2 j hj
     have e:sumN (fun k=>lS times l (i+1) k*A k j) m=sumN (fun k=>lS times l i k*A k j) m+cS times i*sumN (fun k=>fn (l.getD i []) k*A k j) m:=by
       rw [← q4m,← qfh]
       refine qr fun k _=>?_
       show (lS times l i k+cS times i*(l.getD i []).getD k 0)*A k j=_
       rw [Int.add_mul,Int.mul_assoc]
       rfl
     rw [e,h,hs]
     omega
include ht hr in
theorem q11z {c:Nat} {A:Nat→Nat→Int} (hM:Mins m c A l) (i:Nat) (hi:i≤l.length):sS times i=someB (tab m fun j=>lS times l i j):=by
 rw [Bool.eq_iff_iff,qjb,q2d]
 have hf:∀ j,j < m→fn (tab m fun j=>lS times l i j) j=lS times l i j:=fun j hj=>q4l hj
 have hnn:∀ k,k≤l.length→∀ j,j < m→0≤lS times l k j:=fun k hk=>(lS_sol times ht l m hr hM k hk).1
 unfold sS
 rw [List.any_eq_true]
 have key:(∃ r,r < i∧0 < cS times r)↔∃ j,j < m∧0 < lS times l i j:=by
   clear hf
   induction i with
   | zero =>
     constructor
     · rintro ⟨r,hr,_⟩; omega
     · rintro ⟨j,_,h⟩; exact absurd h (by show ¬ (0:Int) < 0; decide)
   | succ i ih =>
     have hI:=ih (by omega)
     have hx:=fun j=>(hr _ (qs [] (show i < l.length by omega))).2 j
     have hc:=cS_bd times ht i
     have e:∀ j,lS times l (i+1) j=lS times l i j+cS times i*(l.getD i []).getD j 0:=fun j=>rfl
     constructor
     · rintro ⟨r,hr1,hr2⟩
       by_cases hri:r < i
       · obtain ⟨j,hj,h⟩:=hI.1 ⟨r,hri,hr2⟩
         have:=Int.mul_nonneg hc.1 (hx j).1
         exact ⟨j,hj,by rw [e]; omega⟩
       · have hri:r=i:=by omega
         subst hri
         obtain ⟨j,hj,h⟩:=(hM.min _ (qs [] (show r < l.length by omega))).2.1
         have h1:=hnn r (by omega) j hj
         have h2:0 < (l.getD r []).getD j 0:=by
           have:=(hx j).1
           have h:(l.getD r []).getD j 0≠0:=h
           omega
         have:=Int.mul_pos hr2 h2
         exact ⟨j,hj,by rw [e]; omega⟩
     · rintro ⟨j,hj,h⟩
       rw [e] at h
       by_cases h1:0 < cS times i
       · exact ⟨i,by omega,h1⟩
       · have h2:cS times i=0:=by omega
         rw [h2,Int.zero_mul,Int.add_zero] at h
         obtain ⟨r,hr1,hr2⟩:=hI.2 ⟨j,hj,h⟩
         exact ⟨r,by omega,hr2⟩
 constructor
 · rintro ⟨r,hr1,hr2⟩
   obtain ⟨j,hj,h⟩:=key.1 ⟨r,List.mem_range.1 hr1,of_decide_eq_true hr2⟩
   exact ⟨j,hj,by rw [hf j hj]; omega⟩
 · rintro ⟨j,hj,h⟩
   rw [hf j hj] at h
   have:=hnn i hi j hj
   obtain ⟨r,h1,h2⟩:=key.2 ⟨j,hj,by omega⟩
   exact ⟨r,List.mem_range.2 h1,decide_eq_true h2⟩
end
theorem qy5 {n c:Nat} {A:Nat→Nat→Int} {y z:Nat→Int} (h:EqN n y z) (hy:Sol n c A y):Sol n c A z :=
 ⟨fun i hi=>by rw [← h i hi]; exact hy.1 i hi,fun j hj=>by rw [← hy.2 j hj]; exact qr fun i hi=>by rw [h i hi]⟩
theorem q146 {m:Nat} (hm:m≤1000) (z x:List Int) (hz:z.length=m) (hx:x.length=m):qgz z x=some (qu m z x):=by
 unfold qgz
 rw [q102 z x hz hx hm,decide_eq_true (by omega)]
 rfl
theorem qyt {m c:Nat} {A:Nat→Nat→Int} (hm:m≤1000) {l:Rw} (hl:l.length≤1000) (hM:Mins m c A l) {x:List Int} (hx:x.length=m) (hs:Sol m c A (fn x)):q5k x l=some true:=by
 have hC:∀ p:Nat,p < m→0 < x.getD p 0→q32 l x (p:Int)=some true:=fun p hp h=>by
   have hL:qac l x (p:Int) (l.length:Int) 0=some (fOut (fun i=>(i:Int)) (fidx (fun z=>qu m z x&&decide (0 < z.getD p 0)) l)):=by
     refine qg3 l [] (fun z=>qu m z x&&decide (0 < z.getD p 0)) (fun i=>(i:Int)) (by omega) (fun i hi=>?_) ?_
     · have hz:=hM.len _ (qs [] hi)
       have e:=q146 hm (l.getD i []) x hz hx
       cases hw:qu m (l.getD i []) x with
       | false =>
         rw [hw] at e
         simp (disch:=omega) only [q1x,q71,e,ckB_ix,q6,q5,q7,ckB_mk,ckB_ne,bif_lt,qb,bif_le,qc,bif_eq,qa,bif_ne,q8,q9,q4,q0,bnd_ok,lk_inl,lk_inr,Int.toNat_natCast,decide_true]
         rw [qg]
         rfl
       | true =>
         rw [hw] at e
         simp (disch:=omega) only [q1x,q71,e,ckB_ix,q6,q5,q7,ckB_mk,ckB_ne,bif_lt,qb,bif_le,qc,bif_eq,qa,bif_ne,q8,q9,q4,q0,bnd_ok,lk_inl,lk_inr,Int.toNat_natCast,decide_true]
         rw [qg]
         cases decide (0 < (l.getD i []).getD p 0)<;>rfl
     · simp (disch:=omega) only [q1x,ckB_ix,q6,q5,q7,ckB_mk,ckB_ne,bif_lt,qb,bif_le,qc,bif_eq,qa,bif_ne,q8,q9,q4,q0,bnd_ok,lk_inl,lk_inr,Int.toNat_natCast,decide_true]
   unfold q32 q79
   rw [hL,bnd_ok,qkp,bnd_ok,qko]
   refine congrArg some (List.any_eq_true.2 ?_)
   obtain ⟨y,h1,h2,h3,h4⟩:=min_in hs hp (show fn x p≠0 by unfold fn; omega)
   obtain ⟨z,hz,he⟩:=hM.cov y h1 h2
   refine ⟨z,hz,?_⟩
   rw [Bool.and_eq_true]
   refine ⟨qc0.2 fun i hi h=>h3 i hi (by rw [← he i hi]; exact h),decide_eq_true ?_⟩
   have h5:=he p hp
   have h6:=h1.1.1 p hp
   have h5:z.getD p 0=y p:=h5
   omega
 unfold q5k
 have hL:qed l x (x.length:Int) x 0=some (.inl ()):=by
   refine q2n (fun i:Nat=>(i:Int)) x.length (q1o (by omega)) _ (fun i hi=>?_) ?_ _ rfl
   · by_cases h:0 < x.getD i 0
     · have e:=hC i (by omega) h
       simp (disch:=omega) only [q3v,e,ckB_ix,q6,q5,q7,ckB_mk,ckB_ne,bif_lt,qb,bif_le,qc,bif_eq,qa,bif_ne,q8,q9,q4,q0,bnd_ok,lk_inl,lk_inr,Int.toNat_natCast,decide_true]
       rw [qg]
     · simp (disch:=omega) only [q3v,ckB_ix,q6,q5,q7,ckB_mk,ckB_ne,bif_lt,qb,bif_le,qc,bif_eq,qa,bif_ne,q8,q9,q4,q0,bnd_ok,lk_inl,lk_inr,Int.toNat_natCast,decide_true]
       rw [qg]
   · simp (disch:=omega) only [q3v,ckB_ix,q6,q5,q7,ckB_mk,ckB_ne,bif_lt,qb,bif_le,qc,bif_eq,qa,bif_ne,q8,q9,q4,q0,bnd_ok,lk_inl,lk_inr,Int.toNat_natCast,decide_true]
 rw [hL]
 rfl
theorem qt5 (n:Net) (y x times:List Int) (hl:n.2.1.length≤9223372036854775807) (ht:∀ i,0≤times.getD i 0):qcz n y x times=some true:=by
 obtain ⟨b,hb,hF⟩:=few_eq n hl
 unfold qcz
 rw [q12n,hb]
 cases b with
 | false => rfl
 | true =>
   obtain ⟨h,hf⟩:=hF rfl
   by_cases h1:(60:Int) < (y.length:Int)
   · simp (disch:=omega) only [Bool.not_true,ckB_ix,q6,q5,q7,ckB_mk,ckB_ne,bif_lt,qb,bif_le,qc,bif_eq,qa,bif_ne,q8,q9,q4,q0,bnd_ok,lk_inl,lk_inr,Int.toNat_natCast,decide_true]
   · by_cases h2:(80:Int) < (x.length:Int)
     · simp (disch:=omega) only [Bool.not_true,ckB_ix,q6,q5,q7,ckB_mk,ckB_ne,bif_lt,qb,bif_le,qc,bif_eq,qa,bif_ne,q8,q9,q4,q0,bnd_ok,lk_inl,lk_inr,Int.toNat_natCast,decide_true]
     · by_cases h3:(60:Int) < (times.length:Int)
       · simp (disch:=omega) only [Bool.not_true,ckB_ix,q6,q5,q7,ckB_mk,ckB_ne,bif_lt,qb,bif_le,qc,bif_eq,qa,bif_ne,q8,q9,q4,q0,bnd_ok,lk_inl,lk_inr,Int.toNat_natCast,decide_true]
       · have eP:=q13v h hf
         have eT:=qwa h hf
         by_cases c1:(outP n).2=0
         · by_cases c2:(outT n).2=0
           · obtain ⟨hv,hlg,p1,p2,p3⟩:=qxx hf c1
             have mP:=q14d hf c1
             have mT:=q13x hf c2
             have oP:=q16r (n:=n)
             have oT:=q160 (n:=n)
             have hPl:=oP.len
             have hTl:=oT.len
             have e1:=q128 times ht (outP n).1 oP.len n.1.toNat (by omega) oP.row
             have e2:=q128 times ht (outT n).1 oT.len n.2.1.length (by omega) oT.row
             rw [show ((n.1.toNat:Nat):Int)=n.1 by omega] at e1
             have i1:=qtl h (tab n.1.toNat fun j=>lS times (outP n).1 (outP n).1.length j) (by rw [q2d]; omega)
             have i2:=qky h (tab n.2.1.length fun j=>lS times (outT n).1 (outT n).1.length j) (by rw [q2d]; omega)
             have s1:=q11z times ht (outP n).1 n.1.toNat oP.row mP _ (Nat.le_refl _)
             have s2:=q11z times ht (outT n).1 n.2.1.length oT.row mT _ (Nat.le_refl _)
             have nn1:∀ i,0≤(tab n.1.toNat fun j=>lS times (outP n).1 (outP n).1.length j).getD i 0:=fun i=>by
               by_cases hi:i < n.1.toNat
               · rw [q4l hi]; exact (lS_bd times ht _ hPl _ oP.row _ _ (Nat.le_refl _)).1
               · rw [List.getD_eq_getElem?_getD,List.getElem?_eq_none (by rw [q2d]; omega)]
                 exact Int.le_refl _
             have nn2:∀ i,0≤(tab n.2.1.length fun j=>lS times (outT n).1 (outT n).1.length j).getD i 0:=fun i=>by
               by_cases hi:i < n.2.1.length
               · rw [q4l hi]; exact (lS_bd times ht _ hTl _ oT.row _ _ (Nat.le_refl _)).1
               · rw [List.getD_eq_getElem?_getD,List.getElem?_eq_none (by rw [q2d]; omega)]
                 exact Int.le_refl _
             have q1:=q17n hv (q2d _ _) nn1 (qy5 (fun j hj=>(show fn (tab n.1.toNat fun j=>lS times (outP n).1 (outP n).1.length j) j=_ from q4l hj).symm) (lS_sol times ht _ _ oP.row mP _ (Nat.le_refl _)))
             have q2:=q16h hv nn2 (qy5 (fun j hj=>(show fn (tab n.2.1.length fun j=>lS times (outT n).1 (outT n).1.length j) j=_ from q4l hj).symm) (lS_sol times ht _ _ oT.row mT _ (Nat.le_refl _)))
             rw [← s1] at q1
             rw [← s2] at q2
             generalize tab n.1.toNat (fun j=>lS times (outP n).1 (outP n).1.length j)=P at *
             generalize tab n.2.1.length (fun j=>lS times (outT n).1 (outT n).1.length j)=Q at *
             generalize sS times (outP n).1.length=sP at *
             generalize sS times (outT n).1.length=sT at *
             have e3:=qtl h y (by omega)
             have e4:=qky h x (by omega)
             have tT0:q5g x (outT n).1 n.1 n.2.1 n.2.2.1 n.2.2.2.1=some (.inr true):=by
               have e4':q3i (n.1,n.2.1,n.2.2.1,n.2.2.2.1,()) x=some (isT n x):=e4
               unfold q5g qbb
               rw [e4',bnd_ok]
               by_cases hc:isT n x=(true,0)
               · obtain ⟨a1,a2,a3⟩:=q15b hc
                 rw [qyt (by omega) hTl mT a1 a2,hc]
                 rfl
               · cases hd:decide ((isT n x).2=0) with
                 | false => rfl
                 | true =>
                   cases hg:(isT n x).1 with
                   | false => rfl
                   | true => exact absurd (Prod.ext hg (of_decide_eq_true hd)) hc
             have tT1:q3s y x (outP n).1 (outT n).1 n.1 n.2.1 n.2.2.1 n.2.2.2.1=some (.inr true):=by
               have e3':q9i (n.1,n.2.1,n.2.2.1,n.2.2.2.1,()) y=some (isP n y):=e3
               unfold q3s qb4
               rw [e3',bnd_ok,tT0]
               by_cases hc:isP n y=(true,0)
               · obtain ⟨a1,a2,a3⟩:=q15d hc
                 rw [qyt (by omega) hPl mP a1 a2,hc]
                 rfl
               · cases hd:decide ((isP n y).2=0) with
                 | false => rfl
                 | true =>
                   cases hg:(isP n y).1 with
                   | false => rfl
                   | true => exact absurd (Prod.ext hg (of_decide_eq_true hd)) hc
             have tT2:q3r y x (outP n).1 (outT n).1 Q sT n.1 n.2.1 n.2.2.1 n.2.2.2.1=some (.inr true):=by
               have i2':q3i (n.1,n.2.1,n.2.2.1,n.2.2.2.1,()) Q=some (isT n Q):=i2
               unfold q3r qb2
               rw [i2',bnd_ok,tT1]
               rcases q2 with q | q<;>rw [q]
               · rfl
               · cases sT<;>rfl
             rw [eP,eT]
             simp (disch:=omega) only [Bool.not_true,e1,e2,i1,tT2,decide_eq_true c1,decide_eq_true c2,ckB_ix,q6,q5,q7,ckB_mk,ckB_ne,bif_lt,qb,bif_le,qc,bif_eq,qa,bif_ne,q8,q9,q4,q0,bnd_ok,lk_inl,lk_inr,Int.toNat_natCast,decide_true]
             rcases q1 with q | q<;>rw [q]
             · rfl
             · cases sP<;>rfl
           · rw [eP,eT]
             simp (disch:=omega) only [Bool.not_true,decide_eq_true c1,decide_eq_false c2,ckB_ix,q6,q5,q7,ckB_mk,ckB_ne,bif_lt,qb,bif_le,qc,bif_eq,qa,bif_ne,q8,q9,q4,q0,bnd_ok,lk_inl,lk_inr,Int.toNat_natCast,decide_true]
         · rw [eP,eT]
           simp (disch:=omega) only [Bool.not_true,decide_eq_false c1,ckB_ix,q6,q5,q7,ckB_mk,ckB_ne,bif_lt,qb,bif_le,qc,bif_eq,qa,bif_ne,q8,q9,q4,q0,bnd_ok,lk_inl,lk_inr,Int.toNat_natCast,decide_true]
end Go.Proofs.Ythakmiiaejhlbaa
