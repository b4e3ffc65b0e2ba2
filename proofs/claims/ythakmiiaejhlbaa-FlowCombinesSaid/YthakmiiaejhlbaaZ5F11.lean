/-
  Flow: which lists are invariants, values, the equation; the law FlowChecks.
-/
import Derived.Test.YthakmiiaejhlbaaZ5F10
set_option linter.all false
namespace Go.Proofs.Ythakmiiaejhlbaa
open Go.K Go.M
def badK (k:Int):Bool:=decide (k < 0)||decide (1048576 < k)
def numB (N:Int) (l:List Int):Bool:=decide ((l.length:Int)=N)&&!l.any badK
def someB (l:List Int):Bool:=l.any fun k=>!decide (k=0)
theorem qq3 {N:Int} {l:List Int} (h:numB N l=true):(l.length:Int)=N∧∀ i,0≤l.getD i 0∧l.getD i 0≤1048576:=by
 unfold numB at h
 rw [Bool.and_eq_true,decide_eq_true_eq,Bool.not_eq_true',List.any_eq_false] at h
 refine ⟨h.1,fun i=>?_⟩
 by_cases hi:i < l.length
 · have:=h.2 _ (qs 0 hi)
   unfold badK at this
   simp only [Bool.or_eq_true,decide_eq_true_eq,not_or] at this
   omega
 · rw [List.getD_eq_getElem?_getD,List.getElem?_eq_none (by omega)]
   show (0:Int)≤0∧(0:Int)≤1048576
   omega
theorem qvf (l:List Int) (N:Int) (hl:l.length≤1000000):qd8 l N=some (numB N l):=by
 have hL:qad l (l.length:Int) 0=some (fOut (fun i=>(i:Int)) (fidx badK l)):=by
   refine qg3 l 0 badK (fun i=>(i:Int)) (by omega) (fun i hi=>?_) ?_
   · unfold badK
     simp (disch:=omega) only [q30,qi6,ckB_ix,q6,q5,q7,ckB_mk,ckB_ne,bif_lt,qb,bif_le,qc,bif_eq,qa,bif_ne,q8,q9,q4,q0,bnd_ok,lk_inl,lk_inr,Int.toNat_natCast,decide_true]
     rw [qg]
     cases decide (l.getD i 0 < 0)<;>cases decide (1048576 < l.getD i 0)<;>rfl
   · simp (disch:=omega) only [q30,ckB_ix,q6,q5,q7,ckB_mk,ckB_ne,bif_lt,qb,bif_le,qc,bif_eq,qa,bif_ne,q8,q9,q4,q0,bnd_ok,lk_inl,lk_inr,Int.toNat_natCast,decide_true]
 have hC:q35 l=some (l.any badK):=by
   unfold q35 q7b
   rw [hL,bnd_ok,qkp,bnd_ok,qko]
 unfold qd8 numB
 rw [hC]
 cases decide ((l.length:Int)=N)<;>rfl
theorem qx1 (l:List Int) (hl:l.length≤1000000):qfo l=some (someB l):=by
 have hL:qae l (l.length:Int) 0=some (fOut (fun i=>(i:Int)) (fidx (fun k=>!decide (k=0)) l)):=by
   refine qg3 l 0 (fun k=>!decide (k=0)) (fun i=>(i:Int)) (by omega) (fun i hi=>?_) ?_
   · simp (disch:=omega) only [q31,qnw,ckB_ix,q6,q5,q7,ckB_mk,ckB_ne,bif_lt,qb,bif_le,qc,bif_eq,qa,bif_ne,q8,q9,q4,q0,bnd_ok,lk_inl,lk_inr,Int.toNat_natCast,decide_true]
     rw [qg]
     cases decide (l.getD i 0=0)<;>rfl
   · simp (disch:=omega) only [q31,ckB_ix,q6,q5,q7,ckB_mk,ckB_ne,bif_lt,qb,bif_le,qc,bif_eq,qa,bif_ne,q8,q9,q4,q0,bnd_ok,lk_inl,lk_inr,Int.toNat_natCast,decide_true]
 unfold qfo q5o q7c someB
 rw [hL,bnd_ok,qkp,bnd_ok,bnd_ok,qko]
def psum (n:Net) (y:List Int) (t:Nat) (i:Nat):Int:=sumN (fun p=>y.getD p 0*incB (n.2.1.getD t Trans.z) (p:Int)) i
def allP (n:Net) (y:List Int):Bool:=(List.range n.2.1.length).all fun t=>decide (psum n y t y.length=0)
def isP (n:Net) (y:List Int):Bool×Int:=bif !validN n then (false,1) else bif !numB n.1 y then (false,1) else bif allP n y then (someB y,0) else (false,0)
theorem qqd {y:List Int} (hy:∀ i,0≤y.getD i 0∧y.getD i 0≤1048576) (t:Trans) (i:Nat) (p:Int) : -1048576≤y.getD i 0*incB t p∧y.getD i 0*incB t p≤1048576:=by
 have h1:=hy i
 have:=qbj (a:=1048576) (b:=1) (x:=y.getD i 0) (y:=incB t p) (by omega) (qwf t p)
 omega
theorem q16f (n:Net) {y:List Int} (hy:∀ i,0≤y.getD i 0∧y.getD i 0≤1048576) (t i:Nat) (hi:i≤1000) : -1048576000≤psum n y t i∧psum n y t i≤1048576000:=by
 have h1:=qxk (f:=fun p=>y.getD p 0*incB (n.2.1.getD t Trans.z) (p:Int)) (b:=1048576) (by omega) hi fun k _=>qqd hy _ k (k:Int)
 exact ⟨by have:=h1.1; unfold psum; omega,by have:=h1.2; unfold psum; omega⟩
section
variable {n:Net} (h:Small n) {y:List Int} (hyl:y.length≤1000) (hy:∀ i,0≤y.getD i 0∧y.getD i 0≤1048576)
include h hyl hy in
theorem q123 (t:Nat) (ht:t < n.2.1.length) (a b:Int) (ts:List Trans):qmh y ts a b y (y.length:Int) (n.2.1.getD t Trans.z).1 (n.2.1.getD t Trans.z).2.1 (n.2.1.getD t Trans.z).2.2.1 (0,0)=some (.inl (psum n y t y.length)):=by
 have hm:=qs Trans.z ht
 have h1:=h.ins _ hm
 have h2:=h.outs _ hm
 refine q2n (fun i:Nat=>(psum n y t i,(i:Int))) y.length (q1o (by omega)) _ (fun i hi=>?_) ?_ _ rfl
 · have e:=qn2 (n.2.1.getD t Trans.z) (i:Int) (by omega) (by omega)
   have e':q3k ((n.2.1.getD t Trans.z).1,(n.2.1.getD t Trans.z).2.1,(n.2.1.getD t Trans.z).2.2.1,()) (i:Int)=some (incB (n.2.1.getD t Trans.z) (i:Int)):=e
   have b1:=qqd hy (n.2.1.getD t Trans.z) i (i:Int)
   have b2:=q16f n hy t i (by omega)
   have e2:psum n y t (i+1)=psum n y t i+y.getD i 0*incB (n.2.1.getD t Trans.z) (i:Int):=rfl
   rw [e2]
   simp (disch:=omega) only [qbr,e',ckB_ix,q6,q5,q7,ckB_mk,ckB_ne,bif_lt,qb,bif_le,qc,bif_eq,qa,bif_ne,q8,q9,q4,q0,bnd_ok,lk_inl,lk_inr,Int.toNat_natCast,decide_true]
   rw [qg]
 · simp (disch:=omega) only [qbr,ckB_ix,q6,q5,q7,ckB_mk,ckB_ne,bif_lt,qb,bif_le,qc,bif_eq,qa,bif_ne,q8,q9,q4,q0,bnd_ok,lk_inl,lk_inr,Int.toNat_natCast,decide_true]
include h hyl hy in
theorem q16u:qnc y n.2.1 (n.2.1.length:Int) 0=some (bif allP n y then .inl () else .inr (false,0)):=by
 have hl:=h.trans
 refine qkx (fun i:Nat=>(i:Int)) n.2.1.length (q1o (by omega)) (fun t=>decide (psum n y t y.length=0)) () (false,0) (fun i hi hp=>?_) (fun i hi hp=>?_) ?_
 · have e:=q123 h hyl hy i hi (n.2.1.length:Int) (i:Int) n.2.1
   simp (disch:=omega) only [q8i,e,hp,Bool.not_true,ckB_ix,q6,q5,q7,ckB_mk,ckB_ne,bif_lt,qb,bif_le,qc,bif_eq,qa,bif_ne,q8,q9,q4,q0,bnd_ok,lk_inl,lk_inr,Int.toNat_natCast,decide_true]
   rw [qg]
 · have e:=q123 h hyl hy i hi (n.2.1.length:Int) (i:Int) n.2.1
   simp (disch:=omega) only [q8i,e,hp,Bool.not_false,ckB_ix,q6,q5,q7,ckB_mk,ckB_ne,bif_lt,qb,bif_le,qc,bif_eq,qa,bif_ne,q8,q9,q4,q0,bnd_ok,lk_inl,lk_inr,Int.toNat_natCast,decide_true]
 · simp (disch:=omega) only [q8i,ckB_ix,q6,q5,q7,ckB_mk,ckB_ne,bif_lt,qb,bif_le,qc,bif_eq,qa,bif_ne,q8,q9,q4,q0,bnd_ok,lk_inl,lk_inr,Int.toNat_natCast,decide_true]
include h hyl hy in
include h hyl hy in
end
theorem qtl {n:Net} (h:Small n) (y:List Int) (hyl:y.length≤1000):q9i n y=some (isP n y):=by
 unfold q9i isP
 rw [qqe h,qvf y n.1 (by omega),qx1 y (by omega)]
 cases hv:validN n with
 | false => rfl
 | true =>
   cases hn:numB n.1 y with
   | false => rfl
   | true =>
     rw [q16u h hyl (qq3 hn).2]
     cases allP n y<;>rfl
def esum (n:Net) (x:List Int) (p:Nat) (i:Nat):Int:=sumN (fun t=>x.getD t 0*incB (n.2.1.getD t Trans.z) (p:Int)) i
def effE (n:Net) (x:List Int):List Int:=tab n.1.toNat fun p=>esum n x p n.2.1.length
theorem q162 (n:Net) {x:List Int} (hx:∀ i,0≤x.getD i 0∧x.getD i 0≤1048576) (p i:Nat) (hi:i≤100) : -104857600≤esum n x p i∧esum n x p i≤104857600:=by
 have h1:=qxk (f:=fun t=>x.getD t 0*incB (n.2.1.getD t Trans.z) (p:Int)) (b:=1048576) (by omega) hi fun k _=>qqd hx _ k (p:Int)
 exact ⟨by have:=h1.1; unfold esum; omega,by have:=h1.2; unfold esum; omega⟩
theorem quk (n:Net) (x:List Int):(effE n x).length=n.1.toNat:=q2d _ _
section
variable {n:Net} (h:Small n) (hN:0≤n.1∧n.1≤40) {x:List Int} (hxl:x.length=n.2.1.length) (hx:∀ i,0≤x.getD i 0∧x.getD i 0≤1048576)
include h hN hxl hx in
theorem q16d (t:Nat) (ht:t < n.2.1.length) (a b:Int) (ts:List Trans):qqp x (t:Int) ts a b (n.1.toNat:Int) (n.2.1.getD t Trans.z).1 (n.2.1.getD t Trans.z).2.1 (n.2.1.getD t Trans.z).2.2.1 (0,tab n.1.toNat fun p=>esum n x p t)=some (.inl (tab n.1.toNat fun p=>esum n x p (t+1))):=by
 have hm:=qs Trans.z ht
 have h1:=h.ins _ hm
 have h2:=h.outs _ hm
 have hl:=h.trans
 have e0:(tab n.1.toNat fun p=>esum n x p t)=tab n.1.toNat fun p=>if p < 0 then esum n x p (t+1) else esum n x p t:=q4u fun p _=>(if_neg (by omega)).symm
 rw [e0]
 have e1:(tab n.1.toNat fun p=>esum n x p (t+1))=tab n.1.toNat fun p=>if p < n.1.toNat then esum n x p (t+1) else esum n x p t:=q4u fun p hp=>(if_pos hp).symm
 rw [e1]
 refine q2n (fun k:Nat=>((k:Int),tab n.1.toNat fun p=>if p < k then esum n x p (t+1) else esum n x p t)) n.1.toNat (q1o (by omega)) _ (fun k hk=>?_) ?_ _ rfl
 · have e:=qn2 (n.2.1.getD t Trans.z) (k:Int) (by omega) (by omega)
   have e':q3k ((n.2.1.getD t Trans.z).1,(n.2.1.getD t Trans.z).2.1,(n.2.1.getD t Trans.z).2.2.1,()) (k:Int)=some (incB (n.2.1.getD t Trans.z) (k:Int)):=e
   have b1:=qqd hx (n.2.1.getD t Trans.z) t (k:Int)
   have b2:=q162 n hx k t (by omega)
   have e2:esum n x k (t+1)=esum n x k t+x.getD t 0*incB (n.2.1.getD t Trans.z) (k:Int):=rfl
   have e3:(tab n.1.toNat fun p=>if p < k then esum n x p (t+1) else esum n x p t).getD k 0=esum n x k t:=by
     rw [q4l hk,if_neg (by omega)]
   simp (disch:=omega) only [qdb,q2d,e',e3,ckB_ix,q6,q5,q7,ckB_mk,ckB_ne,bif_lt,qb,bif_le,qc,bif_eq,qa,bif_ne,q8,q9,q4,q0,bnd_ok,lk_inl,lk_inr,Int.toNat_natCast,decide_true]
   rw [qg,← e2,qo7]
   refine congrArg some (congrArg LR.next (Prod.ext rfl (q4u fun j hj=>?_)))
   by_cases ej:j=k
   · subst ej
     rw [if_pos rfl,if_pos (by omega)]
   · rw [if_neg ej]
     by_cases hjk:j < k
     · rw [if_pos hjk,if_pos (by omega)]
     · rw [if_neg hjk,if_neg (by omega)]
 · simp (disch:=omega) only [qdb,ckB_ix,q6,q5,q7,ckB_mk,ckB_ne,bif_lt,qb,bif_le,qc,bif_eq,qa,bif_ne,q8,q9,q4,q0,bnd_ok,lk_inl,lk_inr,Int.toNat_natCast,decide_true]
include h hN hxl hx in
theorem q13y:qiy n x=some (effE n x):=by
 have hl:=h.trans
 have hL:qr5 x n.2.1 (n.2.1.length:Int) (0,tab n.1.toNat fun _=>0)=some (.inl (effE n x)):=by
   refine q2n (fun i:Nat=>((i:Int),tab n.1.toNat fun p=>esum n x p i)) n.2.1.length (q1o (by omega)) _ (fun i hi=>?_) ?_ _ rfl
   · have e:=q16d h hN hxl hx i hi (n.2.1.length:Int) (i:Int) n.2.1
     simp (disch:=omega) only [qdm,q2d,e,ckB_ix,q6,q5,q7,ckB_mk,ckB_ne,bif_lt,qb,bif_le,qc,bif_eq,qa,bif_ne,q8,q9,q4,q0,bnd_ok,lk_inl,lk_inr,Int.toNat_natCast,decide_true]
     rw [qg]
   · simp (disch:=omega) only [qdm,ckB_ix,q6,q5,q7,ckB_mk,ckB_ne,bif_lt,qb,bif_le,qc,bif_eq,qa,bif_ne,q8,q9,q4,q0,bnd_ok,lk_inl,lk_inr,Int.toNat_natCast,decide_true]
     rfl
 unfold qiy
 rw [qsz,hL]
 simp (disch:=omega) only [ckB_ix,q6,q5,q7,ckB_mk,ckB_ne,bif_lt,qb,bif_le,qc,bif_eq,qa,bif_ne,q8,q9,q4,q0,bnd_ok,lk_inl,lk_inr,Int.toNat_natCast,decide_true]
include h hN hxl hx in
include h hN hxl hx in
end
def isT (n:Net) (x:List Int):Bool×Int:=bif !validN n then (false,1) else bif !numB (n.2.1.length:Int) x then (false,1) else (someB x&&!someB (effE n x),0)
theorem qky {n:Net} (h:Small n) (x:List Int) (hxl:x.length≤1000):q3i n x=some (isT n x):=by
 unfold q3i isT
 rw [qqe h,qvf x _ (by omega),qx1 x (by omega)]
 cases hv:validN n with
 | false => rfl
 | true =>
   cases hn:numB (n.2.1.length:Int) x with
   | false => rfl
   | true =>
     obtain ⟨v1,v2,v3⟩:=qga hv
     obtain ⟨n1,n2⟩:=qq3 hn
     rw [q13y h (by omega) (by omega) n2]
     have e:=qx1 (effE n x) (by rw [quk]; omega)
     simp only [bnd_ok,e]
     cases someB x<;>cases someB (effE n x)<;>rfl
end Go.Proofs.Ythakmiiaejhlbaa
