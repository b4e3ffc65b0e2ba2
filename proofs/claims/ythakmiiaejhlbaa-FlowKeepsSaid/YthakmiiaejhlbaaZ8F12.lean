/-
  Flow: what the lists of minimal invariants are; sums of minimal invariants and unions of supports; the law FlowCombines.
-/
import Derived.Test.YthakmiiaejhlbaaZ8F11
set_option linter.all false
namespace Go.Proofs.Ythakmiiaejhlbaa
open Go.K Go.M
theorem u8l_of {xs:List Int} (h:Ty.good (.slice (.int .u8)) xs) (i:Nat):0≤xs.getD i 0∧xs.getD i 0≤255:=by
 by_cases hi:i < xs.length
 · exact u8_of (h.2 _ (qq (0:Int) hi))
 · rw [List.getD_eq_getElem?_getD,List.getElem?_eq_none (by omega)]
   show (0:Int)≤0∧(0:Int)≤255
   omega
structure Mins (n c:Nat) (A:Nat→Nat→Int) (d:Rw):Prop where
 len:∀ x∈d,x.length=n
 min:∀ x∈d,MinS n c A (fn x)
 prim:∀ x∈d,Prim n (fn x)
 cov:∀ y,MinS n c A y→Prim n y→∃ x∈d,EqN n (fn x) y
 pw:d.Pairwise fun x y=>¬ Sup n (fn x) (fn y)∧¬ Sup n (fn y) (fn x)
 srt:d.Pairwise LeL
theorem q131 (d:Rw):(srt d).Pairwise LeL:=by
 refine (List.pairwise_mergeSort (le:=fun x y=>!ltL y x) ?_ ?_ d).imp fun h=>by unfold LeL; rw [← Bool.not_eq_true']; exact h
 · intro a b c h1 h2
   rw [Bool.not_eq_true'] at h1 h2 ⊢
   exact qbm.ntrans _ _ _ h2 h1
 · intro a b
   cases h1:ltL b a with
   | false => rfl
   | true =>
     cases h2:ltL a b with
     | false => rfl
     | true =>
       have:=qmm _ _ _ h1 h2
       rw [qwb] at this
       cases this
theorem q13x {n m c:Nat} {A:Nat→Nat→Int} {L:List RowE} (hG:GoodE n m c A L) (h:(resE (mdE L)).2=0):Mins n c A (resE (mdE L)).1:=by
 unfold resE at h ⊢
 cases h1:decide (1000 < (mdE L).length) with
 | true => rw [h1] at h; exact absurd (show (5:Int)=0 from h) (by decide)
 | false =>
   rw [h1] at h
   have hp:=qtp (mdE L)
   cases h2:(srt (mdE L)).any bigL with
   | true => rw [h2] at h; exact absurd (show (6:Int)=0 from h) (by decide)
   | false =>
     have hm:∀ x,x∈srt (mdE L)→∃ r∈L,r.2=x:=fun x hx=>by
       obtain ⟨r,hr,e⟩:=qsa.1 (hp.mem_iff.1 hx)
       exact ⟨r,hr,e⟩
     refine ⟨fun x hx=>?_,fun x hx=>?_,fun x hx=>?_,fun y hy hP=>?_,?_,q131 _⟩
     · obtain ⟨r,hr,rfl⟩:=hm x hx; exact (hG.row r hr).len
     · obtain ⟨r,hr,rfl⟩:=hm x hx; exact hG.min r hr
     · obtain ⟨r,hr,rfl⟩:=hm x hx; exact (hG.row r hr).prim
     · obtain ⟨r,hr,he⟩:=hG.cov y hy hP
       exact ⟨r.2,hp.mem_iff.2 (qsa.2 ⟨r,hr,rfl⟩),he⟩
     · refine (hp.symm.pairwise_iff (fun h=>⟨h.2,h.1⟩)).1 ?_
       unfold mdE
       rw [List.pairwise_map]
       exact hG.pw
theorem qxr {n:Net} (hf:FewN n) (h:(outP n).2=0):Mins n.1.toNat n.2.1.length (AP n) (outP n).1:=by
 obtain ⟨hv,hl,h1,h2,h3⟩:=qb8 hf h
 unfold outP at h ⊢
 rw [hv,hl] at h ⊢
 exact q13x (qzh h1) h
theorem qrx {l:List Int}:someB l=true↔NZ l.length (fn l):=by
 unfold someB NZ
 rw [List.any_eq_true]
 constructor
 · rintro ⟨x,hx,h⟩
   obtain ⟨i,hi,rfl⟩:=ql9 0 hx
   rw [Bool.not_eq_true'] at h
   exact ⟨i,hi,of_decide_eq_false h⟩
 · rintro ⟨i,hi,h⟩
   exact ⟨l.getD i 0,qq 0 hi,by rw [Bool.not_eq_true']; exact decide_eq_false h⟩
theorem q15h {n:Net} {x:List Int} (h0:∀ i,0≤x.getD i 0):someB (effE n x)=false↔Sol n.2.1.length n.1.toNat (AT n) (fn x):=by
 constructor
 · intro h
   refine ⟨fun i _=>h0 i,fun p hp=>?_⟩
   by_cases hc:esum n x p n.2.1.length=0
   · exact hc
   · have:someB (effE n x)=true:=qrx.2 ⟨p,by rw [qp5]; exact hp,by unfold fn effE; rw [q6f hp]; exact hc⟩
     rw [h] at this
     exact absurd this (by decide)
 · intro h
   cases hc:someB (effE n x) with
   | false => rfl
   | true =>
     obtain ⟨p,hp,hx⟩:=qrx.1 hc
     rw [qp5] at hp
     unfold fn effE at hx
     rw [q6f hp] at hx
     exact absurd (h.2 p hp) hx
end Go.Proofs.Ythakmiiaejhlbaa
