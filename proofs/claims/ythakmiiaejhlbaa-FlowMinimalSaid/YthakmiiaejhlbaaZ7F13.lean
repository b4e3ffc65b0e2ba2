/-
  Flow: the reversed net has the same minimal invariants; minimal lists; the law FlowMinimal.
-/
import Derived.Test.YthakmiiaejhlbaaZ7F12
set_option linter.all false
namespace Go.Proofs.Ythakmiiaejhlbaa
open Go.K Go.M
theorem qyw {n:Net} (h:validN n=true):validN (revN n)=true:=by
 unfold validN at h ⊢
 have e:(revN n).2.1.any (badT (revN n).1)=n.2.1.any (badT n.1):=by
   show (n.2.1.map revT).any (badT n.1)=_
   rw [List.any_map]
   refine congrArg (fun f=>n.2.1.any f) ?_
   funext t
   show badT n.1 (revT t)=badT n.1 t
   unfold badT revT
   cases !eqS t.1 ⟨#[]⟩&&!nameB t.1<;>cases setB n.1 t.2.1<;>cases setB n.1 t.2.2.1<;>rfl
 have el:(revN n).2.1.length=n.2.1.length:=List.length_map _
 rw [e,el]
 simp only [Bool.and_eq_true] at h ⊢
 exact ⟨⟨⟨⟨⟨h.1.1.1.1.1,h.1.1.1.1.2⟩,h.1.1.1.2⟩,h.1.1.2⟩,h.2⟩,h.1.2⟩
theorem qip (n:Net):(revN n).2.1.length=n.2.1.length:=List.length_map _
theorem qyy {n:Net} (h:Small n):Small (revN n):=by
 refine ⟨by rw [qip]; exact h.trans,fun t ht=>?_,fun t ht=>?_⟩
 · obtain ⟨s,hs,rfl⟩:=List.mem_map.1 ht; exact h.outs s hs
 · obtain ⟨s,hs,rfl⟩:=List.mem_map.1 ht; exact h.ins s hs
theorem q12g (t:Trans) (p:Int):incB (revT t) p = -incB t p:=by
 show (if memB t.2.1 p then (1:Int) else 0) - (if memB t.2.2.1 p then 1 else 0) = -((if memB t.2.2.1 p then (1:Int) else 0) - (if memB t.2.1 p then 1 else 0))
 omega
theorem rev_at (n:Net) (j:Nat):(revN n).2.1.getD j Trans.z=revT (n.2.1.getD j Trans.z):=by
 show (n.2.1.map revT).getD j Trans.z=_
 rw [List.getD_eq_getElem?_getD,List.getD_eq_getElem?_getD,List.getElem?_map]
 cases n.2.1[j]? <;> rfl
theorem rev_AP (n:Net):AP (revN n)=fun i j => -AP n i j:=by
 funext i j
 unfold AP
 rw [rev_at,q12g]
theorem rev_AT (n:Net):AT (revN n)=fun i j => -AT n i j:=by
 funext i j
 unfold AT
 rw [rev_at,q12g]
theorem q115 {x y:List Int} {n:Nat} (hx:x.length=n) (hy:y.length=n) (h:EqN n (fn x) (fn y)):x=y:=by
 refine List.ext_getElem (by omega) fun i h1 h2=>?_
 have:=h i (by omega)
 unfold fn at this
 rw [qd7 x i 0 h1,qd7 y i 0 h2] at this
 exact this
theorem q105 {n:Nat} {L:List RowE} (h:PW n L):(mdE L).Nodup:=by
 unfold mdE List.Nodup
 rw [List.pairwise_map]
 refine List.Pairwise.imp ?_ h
 intro a b hab he
 exact hab.1 (by rw [he]; exact Sup.refl _ _)
theorem qyo {n m c m' c':Nat} {A B:Nat→Nat→Int} {L M:List RowE} (hL:GoodE n m c A L) (hM:GoodE n m' c' B M) (h:∀ y,MinS n c A y↔MinS n c' B y):(mdE L).Perm (mdE M):=by
 rw [List.perm_ext_iff_of_nodup (q105 hL.pw) (q105 hM.pw)]
 intro x
 constructor
 · intro hx
   obtain ⟨r,hr,rfl⟩:=qfc.1 hx
   obtain ⟨s,hs,he⟩:=hM.cov _ ((h _).1 (hL.min r hr)) (hL.row r hr).prim
   exact qfc.2 ⟨s,hs,q115 (hM.row s hs).len (hL.row r hr).len he⟩
 · intro hx
   obtain ⟨r,hr,rfl⟩:=qfc.1 hx
   obtain ⟨s,hs,he⟩:=hL.cov _ ((h _).2 (hM.min r hr)) (hM.row r hr).prim
   exact qfc.2 ⟨s,hs,q115 (hL.row s hs).len (hM.row r hr).len he⟩
theorem qz5 {d e:Rw} (h:d.Perm e):resE d=resE e:=by
 have h1:srt d=srt e:=srt_of ((qpu d).trans h) (qwl d)
 unfold resE
 rw [h.length_eq,h1]
theorem q161 {n:Net} (hv:validN n=true):outP (revN n)=outP n:=by
 unfold outP
 rw [hv,qyw hv]
 have e:largeB (revN n)=largeB n:=by unfold largeB; rw [qip]; rfl
 rw [e]
 have h1:=(qcn hv).1
 have g1:=qqo (n:=revN n) h1
 have g2:=qqo (n:=n) h1
 rw [rev_AP] at g1
 have hp:resE (mdE (plE (revN n)))=resE (mdE (plE n)):=qz5 (qyo g1 g2 fun y=>by rw [qip]; exact q131)
 rw [hp]
theorem q171 {n:Net} (hv:validN n=true):outT (revN n)=outT n:=by
 unfold outT
 rw [hv,qyw hv]
 have e:largeB (revN n)=largeB n:=by unfold largeB; rw [qip]; rfl
 rw [e]
 have g1:=qq7 (revN n)
 have g2:=qq7 n
 rw [rev_AT] at g1
 have hlen:=qip n
 have hp:resE (mdE (trE (revN n)))=resE (mdE (trE n)):=by
   generalize trE (revN n)=L at g1
   rw [hlen] at g1
   exact qz5 (qyo g1 g2 fun y=>q131)
 rw [hp]
theorem qtu {n c:Nat} {A:Nat→Nat→Int} (hn:n≤1000) {l:Rw} (hl:l.length≤1000) (hM:Mins n c A l) (hr:∀ x∈l,x.length=n∧∀ i,0≤x.getD i 0∧x.getD i 0≤1048576):qbf l=some true:=by
 have hne:∀ i j,i < l.length→j < l.length→i≠j→¬ Sup n (fn (l.getD i [])) (fn (l.getD j [])):=fun i j hi hj hij=>by
   have hp:=List.pairwise_iff_getElem.1 hM.pw
   rw [qd7 l i [] hi,qd7 l j [] hj]
   by_cases h:i < j
   · exact (hp i j hi hj h).1
   · exact (hp j i hj hi (by omega)).2
 have hlt:∀ i,i+1 < l.length→ltL (l.getD i []) (l.getD (i+1) [])=true:=fun i hi=>by
   have hp:=List.pairwise_iff_getElem.1 hM.srt i (i+1) (by omega) hi (by omega)
   rw [← qd7 l i [] (by omega),← qd7 l (i+1) [] hi] at hp
   cases h:ltL (l.getD i []) (l.getD (i+1) []) with
   | true => rfl
   | false =>
     have he:=qol _ _ h hp
     exact absurd (by rw [he]; exact Sup.refl _ _) (hne i (i+1) (by omega) hi (by omega))
 have hT:∀ i,i < l.length→qbx l (i:Int) (l.getD i []) l (l.length:Int) (i:Int)=some (.inl ()):=fun i hi=>by
   have hL:qnj l (i:Int) (l.getD i []) l (l.length:Int) (i:Int) l (l.length:Int) 0=some (.inl ()):=by
     refine q1l (fun k:Nat=>(k:Int)) l.length (q14 (by omega)) _ (fun k hk=>?_) ?_ _ rfl
     · by_cases hik:i=k
       · simp (disch:=omega) only [q8b,ckB_ix,q6,q5,qb,ckB_mk,ckB_ne,bif_lt,q9,bif_le,qa,bif_eq,qc,bif_ne,q7,q8,q4,q0,bnd_ok,lk_inl,lk_inr,Int.toNat_natCast,decide_true]
         rw [qg]
       · have e:=q156 hn (l.getD i []) (l.getD k []) (hM.len _ (qq [] hi)) (hM.len _ (qq [] hk))
         rw [q11s.2 (hne i k hi hk hik)] at e
         simp (disch:=omega) only [q8b,e,ckB_ix,q6,q5,qb,ckB_mk,ckB_ne,bif_lt,q9,bif_le,qa,bif_eq,qc,bif_ne,q7,q8,q4,q0,bnd_ok,lk_inl,lk_inr,Int.toNat_natCast,decide_true]
         rw [qg]
     · simp (disch:=omega) only [q8b,ckB_ix,q6,q5,qb,ckB_mk,ckB_ne,bif_lt,q9,bif_le,qa,bif_eq,qc,bif_ne,q7,q8,q4,q0,bnd_ok,lk_inl,lk_inr,Int.toNat_natCast,decide_true]
   unfold qbx qew
   rw [hL]
   rfl
 have hL:qmp l l (l.length:Int) 0=some (.inl ()):=by
   refine q1l (fun k:Nat=>(k:Int)) l.length (q14 (by omega)) _ (fun i hi=>?_) ?_ _ rfl
   · obtain ⟨hx,hb⟩:=hr _ (qq [] hi)
     have hP:=hM.prim _ (qq [] hi)
     have hm:=hM.min _ (qq [] hi)
     have e1:=q101 (l.getD i []) (by omega) (fun k=>by have:=hb k; omega)
     have eg:gcdE (l.getD i [])=1:=by unfold gcdE; rw [hx]; exact hP
     have ed:divE (gcdE (l.getD i [])) (l.getD i [])=l.getD i []:=by rw [eg]; rfl
     rw [ed] at e1
     have e2:=q13w (l.getD i []) (by omega)
     have e3:=q9n (l.getD i []) (by omega)
     have hlen:(l.getD i []++[(0:Int)]).length=n+1:=by rw [List.length_append,hx]; rfl
     obtain ⟨M,e4,hM1,_⟩:=Max_eq (l.getD i []++[0]) (by omega) (by omega)
     have hM2:1≤M:=by
       obtain ⟨j,hj,hz⟩:=hm.2.1
       have h0:=(hb j).1
       have hz:(l.getD i []).getD j 0≠0:=hz
       have:=hM1 j (by omega)
       rw [List.getD_eq_getElem?_getD,List.getElem?_append_left (by omega),← List.getD_eq_getElem?_getD] at this
       omega
     have e5:=hT i hi
     have hxl:(l.getD i []).length=n:=hx
     by_cases h0:0 < i
     · obtain ⟨r,h1,h2⟩:=qvx (l.getD (i - 1) []) (l.getD i []) (by have:=hM.len _ (qq [] (show i - 1 < l.length by omega)); omega)
       have h3:=hlt (i - 1) (by omega)
       rw [show i - 1+1=i by omega] at h3
       rw [h3,decide_eq_true_eq] at h2
       have hc:((i:Int) - 1).toNat=i - 1:=by omega
       simp (disch:=omega) only [q85,hc,h1,e1,e2,e3,e4,e5,Bool.not_true,ckB_ix,q6,q5,qb,ckB_mk,ckB_ne,bif_lt,q9,bif_le,qa,bif_eq,qc,bif_ne,q7,q8,q4,q0,bnd_ok,lk_inl,lk_inr,Int.toNat_natCast,decide_true]
       rw [qg]
     · simp (disch:=omega) only [q85,e1,e2,e3,e4,e5,Bool.not_true,ckB_ix,q6,q5,qb,ckB_mk,ckB_ne,bif_lt,q9,bif_le,qa,bif_eq,qc,bif_ne,q7,q8,q4,q0,bnd_ok,lk_inl,lk_inr,Int.toNat_natCast,decide_true]
       rw [qg]
   · simp (disch:=omega) only [q85,ckB_ix,q6,q5,qb,ckB_mk,ckB_ne,bif_lt,q9,bif_le,qa,bif_eq,qc,bif_ne,q7,q8,q4,q0,bnd_ok,lk_inl,lk_inr,Int.toNat_natCast,decide_true]
 unfold qbf
 rw [hL]
 rfl
theorem q12d {N:Int} {y:List Int} (hy:(y.length:Int)=N) (hb:∀ i,0≤y.getD i 0∧y.getD i 0≤1048576):numB N y=true:=by
 unfold numB
 rw [decide_eq_true hy,Bool.true_and,Bool.not_eq_true',List.any_eq_false]
 intro k hk
 obtain ⟨i,hi,rfl⟩:=quu 0 hk
 have:=hb i
 unfold badK
 simp only [Bool.or_eq_true,decide_eq_true_eq,not_or]
 omega
theorem q17c {n:Net} (hf:FewN n) (h:(outP n).2=0) {y:List Int} (hy:y∈(outP n).1):isP n y=(true,0):=by
 obtain ⟨hv,hlg,p1,p2,p3⟩:=qt4 hf h
 obtain ⟨r1,r2⟩:=q13m.row y hy
 have hM:=qza hf h
 have hm:=hM.min y hy
 unfold isP
 rw [hv,q12d (by omega) r2,(q16n r1 fun i=>(r2 i).1).2 hm.1,qnd.2 (by rw [r1]; exact hm.2.1)]
 rfl
theorem q17o {n:Net} (hf:FewN n) (h:(outT n).2=0) {y:List Int} (hy:y∈(outT n).1):isT n y=(true,0):=by
 obtain ⟨hv,hlg,p1,p2,p3⟩:=qzd hf h
 obtain ⟨r1,r2⟩:=q12w.row y hy
 have hM:=qye hf h
 have hm:=hM.min y hy
 unfold isT
 rw [hv,q12d (by omega) r2,(q16r fun i=>(r2 i).1).2 hm.1,qnd.2 (by rw [r1]; exact hm.2.1)]
 rfl
theorem qve (n:Net) (hl:n.2.1.length≤9223372036854775807):qdr n=some true:=by
 obtain ⟨b,hb,hF⟩:=few_eq n hl
 unfold qdr
 rw [q13z,hb]
 cases b with
 | false => rfl
 | true =>
   obtain ⟨h,hf⟩:=hF rfl
   have hf:FewN n:=hf
   have eP:=qyt h hf
   have eT:=qom h hf
   have oP:=q13m (n:=n)
   have oT:=q12w (n:=n)
   by_cases c1:(outP n).2=0
   · by_cases c2:(outT n).2=0
     · obtain ⟨hv,hlg,p1,p2,p3⟩:=qt4 hf c1
       have mP:=qza hf c1
       have mT:=qye hf c2
       have hPl:=oP.len
       have hTl:=oT.len
       have L0:qht (outP n).1 (outT n).1 (outP n).1 ((outP n).1.length:Int) n.1 n.2.1 n.2.2.1 n.2.2.2.1 0=some (.inl ()):=by
         refine q1l (fun k:Nat=>(k:Int)) (outP n).1.length (q14 (by omega)) _ (fun i hi=>?_) ?_ _ rfl
         · have hx:=qq ([]:List Int) hi
           have e:qbi (n.1,n.2.1,n.2.2.1,n.2.2.2.1,()) ((outP n).1.getD i [])=some (isP n ((outP n).1.getD i [])):=q11r h _ (by have:=(oP.row _ hx).1; omega)
           rw [q17c hf c1 hx] at e
           simp (disch:=omega) only [q7g,e,Bool.not_true,ckB_ix,q6,q5,qb,ckB_mk,ckB_ne,bif_lt,q9,bif_le,qa,bif_eq,qc,bif_ne,q7,q8,q4,q0,bnd_ok,lk_inl,lk_inr,Int.toNat_natCast,decide_true]
           rw [qg]
         · simp (disch:=omega) only [q7g,ckB_ix,q6,q5,qb,ckB_mk,ckB_ne,bif_lt,q9,bif_le,qa,bif_eq,qc,bif_ne,q7,q8,q4,q0,bnd_ok,lk_inl,lk_inr,Int.toNat_natCast,decide_true]
       have L1:qho (outP n).1 (outT n).1 (outT n).1 ((outT n).1.length:Int) n.1 n.2.1 n.2.2.1 n.2.2.2.1 0=some (.inl ()):=by
         refine q1l (fun k:Nat=>(k:Int)) (outT n).1.length (q14 (by omega)) _ (fun i hi=>?_) ?_ _ rfl
         · have hx:=qq ([]:List Int) hi
           have e:q6t (n.1,n.2.1,n.2.2.1,n.2.2.2.1,()) ((outT n).1.getD i [])=some (isT n ((outT n).1.getD i [])):=qvj h _ (by have:=(oT.row _ hx).1; omega)
           rw [q17o hf c2 hx] at e
           simp (disch:=omega) only [q7h,e,Bool.not_true,ckB_ix,q6,q5,qb,ckB_mk,ckB_ne,bif_lt,q9,bif_le,qa,bif_eq,qc,bif_ne,q7,q8,q4,q0,bnd_ok,lk_inl,lk_inr,Int.toNat_natCast,decide_true]
           rw [qg]
         · simp (disch:=omega) only [q7h,ckB_ix,q6,q5,qb,ckB_mk,ckB_ne,bif_lt,q9,bif_le,qa,bif_eq,qc,bif_ne,q7,q8,q4,q0,bnd_ok,lk_inl,lk_inr,Int.toNat_natCast,decide_true]
       have hfr:FewN (revN n):=by
         unfold FewN at hf ⊢
         rw [qip]
         exact hf
       have eR:=qwa h hv
       have eP':=qyt (qyy h) hfr
       have eT':=qom (qyy h) hfr
       rw [q161 hv] at eP'
       rw [q171 hv] at eT'
       have m1:=qtu (by omega) hPl mP oP.row
       have m2:=qtu (by omega) hTl mT oT.row
       have s1:=qyq (outP n).1 (by omega) (fun x hx=>by have:=(oP.row x hx).1; omega)
       have s2:=qyq (outT n).1 (by omega) (fun x hx=>by have:=(oT.row x hx).1; omega)
       rw [eP,eT]
       simp (disch:=omega) only [Bool.not_true,decide_eq_true c1,decide_eq_true c2,L0,L1,eR,eP',eT',m1,m2,s1,s2,ckB_ix,q6,q5,qb,ckB_mk,ckB_ne,bif_lt,q9,bif_le,qa,bif_eq,qc,bif_ne,q7,q8,q4,q0,bnd_ok,lk_inl,lk_inr,Int.toNat_natCast,decide_true]
     · have z2:=oT.err c2
       have d2:decide (((outT n).1.length:Int)=0)=true:=by rw [z2]; rfl
       rw [eP,eT]
       simp (disch:=omega) only [Bool.not_true,decide_eq_true c1,decide_eq_false c2,d2,ckB_ix,q6,q5,qb,ckB_mk,ckB_ne,bif_lt,q9,bif_le,qa,bif_eq,qc,bif_ne,q7,q8,q4,q0,bnd_ok,lk_inl,lk_inr,Int.toNat_natCast,decide_true]
   · have z1:=oP.err c1
     have d1:decide (((outP n).1.length:Int)=0)=true:=by rw [z1]; rfl
     rw [eP,eT]
     by_cases c2:(outT n).2=0
     · simp (disch:=omega) only [Bool.not_true,decide_eq_false c1,d1,decide_eq_true c2,ckB_ix,q6,q5,qb,ckB_mk,ckB_ne,bif_lt,q9,bif_le,qa,bif_eq,qc,bif_ne,q7,q8,q4,q0,bnd_ok,lk_inl,lk_inr,Int.toNat_natCast,decide_true]
     · have z2:=oT.err c2
       have d2:decide (((outT n).1.length:Int)=0)=true:=by rw [z2]; rfl
       simp (disch:=omega) only [Bool.not_true,decide_eq_false c1,d1,decide_eq_false c2,d2,ckB_ix,q6,q5,qb,ckB_mk,ckB_ne,bif_lt,q9,bif_le,qa,bif_eq,qc,bif_ne,q7,q8,q4,q0,bnd_ok,lk_inl,lk_inr,Int.toNat_natCast,decide_true]
end Go.Proofs.Ythakmiiaejhlbaa
