/-
  Freechoice: clusters divide the net; a net is free-choice exactly if each cluster's transitions have all of its places.
-/
import Derived.Test.YtclbndfjhjladaaZ3H3
import Derived.KernelRfl
set_option linter.all false
namespace Go.Proofs.Ytclbndfjhjladaa
open Go.K Go.M
theorem q1e1 (l:List Int) (h:l.length≤1000000):q1i l=some (l.any fun k=>!decide (k=1)):=by
 have hL:qab l (l.length:Int) 0=some (fOut (fun i=>(i:Int)) (fidx (fun k=>!decide (k=1)) l)):=by
   refine ql4 l 0 (fun k=>!decide (k=1)) (fun i=>(i:Int)) (by omega) (fun i hi=>?_) ?_
   · simp (disch:=omega) only [q20,q6a,ckB_ix,qb,q9,qd,ckB_mk,ckB_ne,bif_lt,qe,bif_le,qc,bif_eq,qf,bif_ne,qh,qg,q8,q5,bnd_ok,lk_inl,lk_inr,Int.toNat_natCast,decide_true]
     rw [qy]
     exact qz6
   · simp (disch:=omega) only [q20,ckB_ix,qb,q9,qd,ckB_mk,ckB_ne,bif_lt,qe,bif_le,qc,bif_eq,qf,bif_ne,qh,qg,q8,q5,bnd_ok,lk_inl,lk_inr,Int.toNat_natCast,decide_true]
 unfold q1i q5a
 rw [hL,bnd_ok,qyf,bnd_ok,qxl]
theorem q1ia (a:List Int) (s:Clu) (ha:a.length≤1000000) (hs:s.1.length≤1000000):q23 a s=some (a.any fun x=>!memB s.1 x):=by
 have h1:∀ x,q3h x s=some (!memB s.1 x):=fun x=>by
   unfold q3h
   simp (disch:=omega) only [ckB_ix,qb,q9,qd,ckB_mk,ckB_ne,bif_lt,qe,bif_le,qc,bif_eq,qf,bif_ne,qh,qg,q8,q5,bnd_ok,lk_inl,lk_inr,Int.toNat_natCast,decide_true]
   rw [q149 _ hs]
   rfl
 have hL:qa8 a s (a.length:Int) 0=some (fOut (fun i=>(i:Int)) (fidx (fun x=>!memB s.1 x) a)):=by
   refine ql4 a 0 (fun x=>!memB s.1 x) (fun i=>(i:Int)) (by omega) (fun i hi=>?_) ?_
   · simp (disch:=omega) only [q26,h1,ckB_ix,qb,q9,qd,ckB_mk,ckB_ne,bif_lt,qe,bif_le,qc,bif_eq,qf,bif_ne,qh,qg,q8,q5,bnd_ok,lk_inl,lk_inr,Int.toNat_natCast,decide_true]
     rw [qy]
     exact qz6
   · simp (disch:=omega) only [q26,ckB_ix,qb,q9,qd,ckB_mk,ckB_ne,bif_lt,qe,bif_le,qc,bif_eq,qf,bif_ne,qh,qg,q8,q5,bnd_ok,lk_inl,lk_inr,Int.toNat_natCast,decide_true]
 unfold q23 q5c
 rw [hL,bnd_ok,qyf,bnd_ok,qxl]
def addC (f:Nat→Nat) (l:List Nat):Nat→Nat:=fun z=>if z∈l then f z+1 else f z
theorem q1c4 (f:Nat→Nat):addC f []=f:=by funext z; simp [addC]
theorem q115 {f:Nat→Nat} {l:List Nat} (hl:l.Nodup) {i:Nat} (hi:i < l.length) :
   l.getD i 0∉l.take i∧setF (addC f (l.take i)) (l.getD i 0) (f (l.getD i 0)+1)=addC f (l.take (i+1)):=by
 have h1:(l.take (i+1)).Nodup:=hl.sublist (List.take_sublist _ _)
 rw [qcq l i 0 hi,List.nodup_append] at h1
 have h2:l.getD i 0∉l.take i:=fun h=>h1.2.2 _ h _ (List.mem_singleton.2 rfl) rfl
 refine ⟨h2,?_⟩
 rw [qcq l i 0 hi]
 funext z
 unfold setF addC
 by_cases e:z=l.getD i 0
 · rw [if_pos e,if_pos (by rw [e]; simp),e]
 · rw [if_neg e]
   by_cases e2:z∈l.take i
   · rw [if_pos e2,if_pos (List.mem_append_left _ e2)]
   · rw [if_neg e2,if_neg (by simp only [List.mem_append,List.mem_singleton,not_or]; exact ⟨e2,e⟩)]
abbrev cast (l:List Nat):List Int:=l.map fun (z:Nat)=>(z:Int)
theorem q1eq (l:List Nat) (i:Nat):(cast l).getD i 0=((l.getD i 0:Nat):Int):=by
 simp only [cast,List.getD_eq_getElem?_getD,List.getElem?_map]
 cases l[i]? <;> rfl
section
variable {M T:Nat} (hM:M≤100) (hT:T≤100)
theorem q1g7 (hM:M≤100) (is fr:Bool) (v:List Clu) (a b c d:Int) (ts:List Trans) (tr p q:List Int) {l:List Nat} (hl:l.Nodup) (hb:∀ z∈l,z < M) (hll:l.length≤1000) {f:Nat→Nat} (hf:∀ z,f z≤1000) :
   qdp is fr v a b (cast l) ((cast l).length:Int) (M:Int) ts c d tr p q (0,pL M f)=some (.inl (pL M (addC f l))):=by
 have hlen:(cast l).length=l.length:=List.length_map _
 refine q12h (fun i=>((i:Int),pL M (addC f (l.take i)))) l.length (qc5 (by omega)) _ (fun i hi=>?_) ?_ _ ?_
 · obtain ⟨z,hz0⟩:∃ z,l.getD i 0=z:=⟨_,rfl⟩
   have hz:=hb _ (qz 0 hi)
   obtain ⟨h1,h2⟩:=q115 (f:=f) hl hi
   have hc:(cast l).getD i 0=(z:Int):=by rw [q1eq,hz0]
   rw [hz0] at h1 h2 hz
   have h3:addC f (l.take i) z=f z:=if_neg h1
   have h4:=hf z
   have h5:(f z:Int)+1=((f z+1:Nat):Int):=by omega
   simp (disch:=omega) only [q2x,hlen,hc,pL_len,pL_at,pL_set,h3,h5,h2,qy,ckB_ix,qb,q9,qd,ckB_mk,ckB_ne,bif_lt,qe,bif_le,qc,bif_eq,qf,bif_ne,qh,qg,q8,q5,bnd_ok,lk_inl,lk_inr,Int.toNat_natCast,decide_true]
 · rw [List.take_length]
   simp (disch:=omega) only [q2x,hlen,ckB_ix,qb,q9,qd,ckB_mk,ckB_ne,bif_lt,qe,bif_le,qc,bif_eq,qf,bif_ne,qh,qg,q8,q5,bnd_ok,lk_inl,lk_inr,Int.toNat_natCast,decide_true]
 · rw [List.take_zero,q1c4]
   rfl
theorem q1gs (is:Bool) (v:List Clu) (a b c d e:Int) {ts:List Trans} (hT:ts.length≤100) (hi':∀ t∈ts,t.2.1.length≤60) (pl p q:List Int) (hp:p.length≤1000) {l:List Nat} (hl:l.Nodup) (hb:∀ z∈l,z < ts.length) (hll:l.length≤1000)
   (hin:∀ z∈l,∀ x∈(ts.getD z Trans.z).2.1,x∈p) {f:Nat→Nat} (hf:∀ z,f z≤1000) (fr:Bool) :
   qdf is v a b (cast l) ((cast l).length:Int) c ts d e pl p q (fr,0,pL ts.length f)=some (.inl (fr&&l.all (fun z=>decide ((ts.getD z Trans.z).2.1=p)),pL ts.length (addC f l))):=by
 have hlen:(cast l).length=l.length:=List.length_map _
 refine q12h (fun i=>(fr&&(l.take i).all (fun z=>decide ((ts.getD z Trans.z).2.1=p)),(i:Int),pL ts.length (addC f (l.take i)))) l.length (qc5 (by omega)) _ (fun i hi=>?_) ?_ _ ?_
 · obtain ⟨z,hz0⟩:∃ z,l.getD i 0=z:=⟨_,rfl⟩
   have hz:=hb _ (qz 0 hi)
   have hin':=hin _ (qz 0 hi)
   obtain ⟨h1,h2⟩:=q115 (f:=f) hl hi
   have hc:(cast l).getD i 0=(z:Int):=by rw [q1eq,hz0]
   rw [hz0] at h1 h2 hz hin'
   have h3:addC f (l.take i) z=f z:=if_neg h1
   have h4:=hf z
   have h5:(f z:Int)+1=((f z+1:Nat):Int):=by omega
   have h6:=hi' _ (qz Trans.z hz)
   have h7:((ts.getD z Trans.z).2.1.any fun x=>!memB p x)=false:=by
     rw [List.any_eq_false]
     intro x hx
     rw [q15i.2 (hin' x hx)]
     simp
   have h8:(l.take (i+1)).all (fun z=>decide ((ts.getD z Trans.z).2.1=p))=((l.take i).all (fun z=>decide ((ts.getD z Trans.z).2.1=p))&&decide ((ts.getD z Trans.z).2.1=p)):=by
     rw [qcq l i 0 hi,hz0,List.all_append]
     simp
   rw [h8,← Bool.and_assoc]
   generalize (fr&&(l.take i).all (fun z=>decide ((ts.getD z Trans.z).2.1=p)))=u
   have h9:=q1ia (ts.getD z Trans.z).2.1 (p,q,()) (by omega) (by show p.length≤1000000; omega)
   simp only at h9
   rw [h7] at h9
   cases u with
   | false => simp (disch:=omega) only [q1q,hlen,hc,pL_len,pL_at,pL_set,h3,h5,h2,qy,h9,Bool.false_and,ckB_ix,qb,q9,qd,ckB_mk,ckB_ne,bif_lt,qe,bif_le,qc,bif_eq,qf,bif_ne,qh,qg,q8,q5,bnd_ok,lk_inl,lk_inr,Int.toNat_natCast,decide_true]
   | true => simp (disch:=omega) only [q1q,hlen,hc,pL_len,pL_at,pL_set,h3,h5,h2,qy,h9,Bool.true_and,q158 (ts.getD z Trans.z).2.1 p (by omega),ckB_ix,qb,q9,qd,ckB_mk,ckB_ne,bif_lt,qe,bif_le,qc,bif_eq,qf,bif_ne,qh,qg,q8,q5,bnd_ok,lk_inl,lk_inr,Int.toNat_natCast,decide_true]
 · rw [List.take_length]
   simp (disch:=omega) only [q1q,hlen,ckB_ix,qb,q9,qd,ckB_mk,ckB_ne,bif_lt,qe,bif_le,qc,bif_eq,qf,bif_ne,qh,qg,q8,q5,bnd_ok,lk_inl,lk_inr,Int.toNat_natCast,decide_true]
 · rw [List.take_zero,q1c4]
   simp
end
def Pr (c:Nat→Nat) (M N r:Nat):List Nat:=(List.range N).filter fun z=>decide (z < M)&&decide (c z=r)
def Tr (c:Nat→Nat) (M N r:Nat):List Nat:=((List.range N).filter fun z=>!decide (z < M)&&decide (c z=r)).map (· - M)
theorem Pr_mem {c:Nat→Nat} {M T r z:Nat}:z∈Pr c M (M+T) r↔z < M∧c z=r:=by
 unfold Pr
 simp only [List.mem_filter,List.mem_range,Bool.and_eq_true,decide_eq_true_eq]
 omega
theorem Tr_mem {c:Nat→Nat} {M T r t:Nat}:t∈Tr c M (M+T) r↔t < T∧c (M+t)=r:=by
 unfold Tr
 simp only [List.mem_map,List.mem_filter,List.mem_range,Bool.and_eq_true,decide_eq_true_eq,Bool.not_eq_true',decide_eq_false_iff_not]
 constructor
 · rintro ⟨z,⟨h1,h2,h3⟩,rfl⟩
   refine ⟨by omega,?_⟩
   rw [show M+(z - M)=z by omega]; exact h3
 · rintro ⟨h1,h2⟩
   exact ⟨M+t,⟨by omega,by omega,h2⟩,by omega⟩
theorem Pr_asc (c:Nat→Nat) (M N r:Nat):(Pr c M N r).Pairwise (· < ·):=List.Pairwise.filter _ List.pairwise_lt_range
theorem Tr_asc (c:Nat→Nat) (M N r:Nat):(Tr c M N r).Pairwise (· < ·):=by
 unfold Tr
 rw [List.pairwise_map]
 refine List.Pairwise.imp_of_mem (fun {a b} ha hb h=>?_) (List.Pairwise.filter _ List.pairwise_lt_range)
 simp only [List.mem_filter,Bool.and_eq_true,Bool.not_eq_true',decide_eq_false_iff_not] at ha hb
 omega
theorem q127 {l:List Nat} (h:l.Pairwise (· < ·)):l.Nodup:=List.Pairwise.imp (fun h=>Nat.ne_of_lt h) h
theorem Pr_len (c:Nat→Nat) (M N r:Nat):(Pr c M N r).length≤N:=by
 have:=List.length_filter_le (fun z=>decide (z < M)&&decide (c z=r)) (List.range N)
 rwa [List.length_range] at this
theorem Tr_len (c:Nat→Nat) (M N r:Nat):(Tr c M N r).length≤N:=by
 unfold Tr
 rw [List.length_map]
 have:=List.length_filter_le (fun z=>!decide (z < M)&&decide (c z=r)) (List.range N)
 rwa [List.length_range] at this
theorem qt1 (c:Nat→Nat) (M N r:Nat):plC c M N r=cast (Pr c M N r):=rfl
theorem q1ho (c:Nat→Nat) (M N r:Nat):trC c M N r=cast (Tr c M N r):=by
 unfold trC Tr cast
 rw [List.map_map]
 refine List.map_congr_left fun z hz=>?_
 simp only [List.mem_filter,Bool.and_eq_true,Bool.not_eq_true',decide_eq_false_iff_not] at hz
 simp only [Function.comp_apply]
 omega
theorem q1cv {l:List Nat} {x:Int}:x∈cast l↔0≤x∧x.toNat∈l:=by
 simp only [cast,List.mem_map]
 constructor
 · rintro ⟨z,hz,rfl⟩
   exact ⟨by omega,by simpa using hz⟩
 · rintro ⟨h1,h2⟩
   exact ⟨_,h2,by omega⟩
theorem q1i2 {l:List Nat} (h:l.Pairwise (· < ·)):(cast l).Pairwise (· < ·):=by
 unfold cast
 rw [List.pairwise_map]
 exact List.Pairwise.imp (fun h=>by omega) h
theorem q1dw:∀ {a b:List Int},a.Pairwise (· < ·)→b.Pairwise (· < ·)→(∀ x,x∈a↔x∈b)→a=b
 | [], [], _, _, _ => rfl
 | [], y :: b, _, _, h => absurd ((h y).2 List.mem_cons_self) (by simp)
 | x :: a, [], _, _, h => absurd ((h x).1 List.mem_cons_self) (by simp)
 | x :: a, y :: b, ha, hb, h => by
   rw [List.pairwise_cons] at ha hb
   have h1:x=y:=by
     rcases List.mem_cons.1 ((h x).1 List.mem_cons_self) with e | e
     · exact e
     · rcases List.mem_cons.1 ((h y).2 List.mem_cons_self) with e' | e'
       · exact e'.symm
       · have:=hb.1 x e; have:=ha.1 y e'; omega
   subst h1
   congr 1
   refine q1dw ha.2 hb.2 fun z=>⟨fun hz=>?_,fun hz=>?_⟩
   · have:=ha.1 z hz
     rcases List.mem_cons.1 ((h z).1 (List.mem_cons_of_mem _ hz)) with e | e
     · omega
     · exact e
   · have:=hb.1 z hz
     rcases List.mem_cons.1 ((h z).2 (List.mem_cons_of_mem _ hz)) with e | e
     · omega
     · exact e
end Go.Proofs.Ytclbndfjhjladaa
