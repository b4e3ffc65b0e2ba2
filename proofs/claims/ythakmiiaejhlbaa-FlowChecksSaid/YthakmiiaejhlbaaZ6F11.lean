/-
  Flow: which lists are invariants, values, the equation; the law FlowChecks.
-/
import Derived.Test.YthakmiiaejhlbaaZ6F10
set_option linter.all false
namespace Go.Proofs.Ythakmiiaejhlbaa
open Go.K Go.M
def badK (k:Int):Bool:=decide (k < 0)||decide (1048576 < k)
def numB (N:Int) (l:List Int):Bool:=decide ((l.length:Int)=N)&&!l.any badK
def someB (l:List Int):Bool:=l.any fun k=>!decide (k=0)
theorem q9v {N:Int} {l:List Int} (h:numB N l=true):(l.length:Int)=N∧∀ i,0≤l.getD i 0∧l.getD i 0≤1048576:=by
 unfold numB at h
 rw [Bool.and_eq_true,decide_eq_true_eq,Bool.not_eq_true',List.any_eq_false] at h
 refine ⟨h.1,fun i=>?_⟩
 by_cases hi:i < l.length
 · have:=h.2 _ (q10 0 hi)
   unfold badK at this
   simp only [Bool.or_eq_true,decide_eq_true_eq,not_or] at this
   omega
 · rw [List.getD_eq_getElem?_getD,List.getElem?_eq_none (by omega)]
   show (0:Int)≤0∧(0:Int)≤1048576
   omega
theorem qjo (l:List Int) (N:Int) (hl:l.length≤1000000):q6p l N=some (numB N l):=by
 have hL:q8k l (l.length:Int) 0=some (fOut (fun i=>(i:Int)) (fidx badK l)):=by
   refine qe6 l 0 badK (fun i=>(i:Int)) (by omega) (fun i hi=>?_) ?_
   · unfold badK
     simp (disch:=omega) only [q1k,qh1,ckB_ix,qc,q7,qb,ckB_mk,ckB_ne,bif_lt,qe,bif_le,qa,bif_eq,qf,bif_ne,q9,qd,q5,q0,bnd_ok,lk_inl,lk_inr,Int.toNat_natCast,decide_true]
     rw [qn]
     cases decide (l.getD i 0 < 0)<;>cases decide (1048576 < l.getD i 0)<;>rfl
   · simp (disch:=omega) only [q1k,ckB_ix,qc,q7,qb,ckB_mk,ckB_ne,bif_lt,qe,bif_le,qa,bif_eq,qf,bif_ne,q9,qd,q5,q0,bnd_ok,lk_inl,lk_inr,Int.toNat_natCast,decide_true]
 have hC:q1n l=some (l.any badK):=by
   unfold q1n q5e
   rw [hL,bnd_ok,qjw,bnd_ok,qjr]
 unfold q6p numB
 rw [hC]
 cases decide ((l.length:Int)=N)<;>rfl
theorem qd8 (l:List Int) (N:Int) (hl:l.length≤1000000):q5w l N=some (numB N l):=by
 have hL:qm6 l 0=some (bif l.any badK then .inr false else .inl ()):=by
   refine qbh l 0 badK false (by omega) (fun i hi=>?_) ?_
   · unfold badK
     simp (disch:=omega) only [q9x,ckB_ix,qc,q7,qb,ckB_mk,ckB_ne,bif_lt,qe,bif_le,qa,bif_eq,qf,bif_ne,q9,qd,q5,q0,bnd_ok,lk_inl,lk_inr,Int.toNat_natCast,decide_true]
     rw [qn]
     cases decide (l.getD i 0 < 0)<;>cases decide (1048576 < l.getD i 0)<;>rfl
   · simp (disch:=omega) only [q9x,ckB_ix,qc,q7,qb,ckB_mk,ckB_ne,bif_lt,qe,bif_le,qa,bif_eq,qf,bif_ne,q9,qd,q5,q0,bnd_ok,lk_inl,lk_inr,Int.toNat_natCast,decide_true]
 unfold q5w numB
 rw [hL]
 cases decide ((l.length:Int)=N)<;>cases l.any badK<;>rfl
theorem qwn (l:List Int) (hl:l.length≤1000000):qea l=some (someB l):=by
 have hL:q8n l (l.length:Int) 0=some (fOut (fun i=>(i:Int)) (fidx (fun k=>!decide (k=0)) l)):=by
   refine qe6 l 0 (fun k=>!decide (k=0)) (fun i=>(i:Int)) (by omega) (fun i hi=>?_) ?_
   · simp (disch:=omega) only [q1l,qn5,ckB_ix,qc,q7,qb,ckB_mk,ckB_ne,bif_lt,qe,bif_le,qa,bif_eq,qf,bif_ne,q9,qd,q5,q0,bnd_ok,lk_inl,lk_inr,Int.toNat_natCast,decide_true]
     rw [qn]
     cases decide (l.getD i 0=0)<;>rfl
   · simp (disch:=omega) only [q1l,ckB_ix,qc,q7,qb,ckB_mk,ckB_ne,bif_lt,qe,bif_le,qa,bif_eq,qf,bif_ne,q9,qd,q5,q0,bnd_ok,lk_inl,lk_inr,Int.toNat_natCast,decide_true]
 unfold qea q3z q5g someB
 rw [hL,bnd_ok,qjw,bnd_ok,bnd_ok,qjr]
theorem qx3 (l:List Int) (hl:l.length≤1000000):qbw l=some (!someB l):=by
 have hL:qrp l 0=some (bif someB l then .inr false else .inl ()):=by
   refine qbh l 0 (fun k=>!decide (k=0)) false (by omega) (fun i hi=>?_) ?_
   · simp (disch:=omega) only [qd5,ckB_ix,qc,q7,qb,ckB_mk,ckB_ne,bif_lt,qe,bif_le,qa,bif_eq,qf,bif_ne,q9,qd,q5,q0,bnd_ok,lk_inl,lk_inr,Int.toNat_natCast,decide_true]
     rw [qn]
     cases decide (l.getD i 0=0)<;>rfl
   · simp (disch:=omega) only [qd5,ckB_ix,qc,q7,qb,ckB_mk,ckB_ne,bif_lt,qe,bif_le,qa,bif_eq,qf,bif_ne,q9,qd,q5,q0,bnd_ok,lk_inl,lk_inr,Int.toNat_natCast,decide_true]
 unfold qbw
 rw [hL]
 cases someB l<;>rfl
def psum (n:Net) (y:List Int) (t:Nat) (i:Nat):Int:=sumN (fun p=>y.getD p 0*incB (n.2.1.getD t Trans.z) (p:Int)) i
def allP (n:Net) (y:List Int):Bool:=(List.range n.2.1.length).all fun t=>decide (psum n y t y.length=0)
def isP (n:Net) (y:List Int):Bool×Int:=bif !validN n then (false,1) else bif !numB n.1 y then (false,1) else bif allP n y then (someB y,0) else (false,0)
theorem qgs {y:List Int} (hy:∀ i,0≤y.getD i 0∧y.getD i 0≤1048576) (t:Trans) (i:Nat) (p:Int) : -1048576≤y.getD i 0*incB t p∧y.getD i 0*incB t p≤1048576:=by
 have h1:=hy i
 have:=qxz (a:=1048576) (b:=1) (x:=y.getD i 0) (y:=incB t p) (by omega) (q15n t p)
 omega
theorem q126 (n:Net) {y:List Int} (hy:∀ i,0≤y.getD i 0∧y.getD i 0≤1048576) (t i:Nat) (hi:i≤1000) : -1048576000≤psum n y t i∧psum n y t i≤1048576000:=by
 have h1:=qsd (f:=fun p=>y.getD p 0*incB (n.2.1.getD t Trans.z) (p:Int)) (b:=1048576) (by omega) hi fun k _=>qgs hy _ k (k:Int)
 exact ⟨by have:=h1.1; unfold psum; omega,by have:=h1.2; unfold psum; omega⟩
section
variable {n:Net} (h:Small n) {y:List Int} (hyl:y.length≤1000) (hy:∀ i,0≤y.getD i 0∧y.getD i 0≤1048576)
include h hyl hy in
theorem q123 (t:Nat) (ht:t < n.2.1.length) (a b:Int) (ts:List Trans):qlz y ts a b y (y.length:Int) (n.2.1.getD t Trans.z).1 (n.2.1.getD t Trans.z).2.1 (n.2.1.getD t Trans.z).2.2.1 (0,0)=some (.inl (psum n y t y.length)):=by
 have hm:=q10 Trans.z ht
 have h1:=h.ins _ hm
 have h2:=h.outs _ hm
 refine q99 (fun i:Nat=>(psum n y t i,(i:Int))) y.length (q2i (by omega)) _ (fun i hi=>?_) ?_ _ rfl
 · have e:=qy9 (n.2.1.getD t Trans.z) (i:Int) (by omega) (by omega)
   have e':q3p ((n.2.1.getD t Trans.z).1,(n.2.1.getD t Trans.z).2.1,(n.2.1.getD t Trans.z).2.2.1,()) (i:Int)=some (incB (n.2.1.getD t Trans.z) (i:Int)):=e
   have b1:=qgs hy (n.2.1.getD t Trans.z) i (i:Int)
   have b2:=q126 n hy t i (by omega)
   have e2:psum n y t (i+1)=psum n y t i+y.getD i 0*incB (n.2.1.getD t Trans.z) (i:Int):=rfl
   rw [e2]
   simp (disch:=omega) only [q9y,e',ckB_ix,qc,q7,qb,ckB_mk,ckB_ne,bif_lt,qe,bif_le,qa,bif_eq,qf,bif_ne,q9,qd,q5,q0,bnd_ok,lk_inl,lk_inr,Int.toNat_natCast,decide_true]
   rw [qn]
 · simp (disch:=omega) only [q9y,ckB_ix,qc,q7,qb,ckB_mk,ckB_ne,bif_lt,qe,bif_le,qa,bif_eq,qf,bif_ne,q9,qd,q5,q0,bnd_ok,lk_inl,lk_inr,Int.toNat_natCast,decide_true]
include h hyl hy in
theorem q15z:qm0 y n.2.1 (n.2.1.length:Int) 0=some (bif allP n y then .inl () else .inr (false,0)):=by
 have hl:=h.trans
 refine qdi (fun i:Nat=>(i:Int)) n.2.1.length (q2i (by omega)) (fun t=>decide (psum n y t y.length=0)) () (false,0) (fun i hi hp=>?_) (fun i hi hp=>?_) ?_
 · have e:=q123 h hyl hy i hi (n.2.1.length:Int) (i:Int) n.2.1
   simp (disch:=omega) only [q6o,e,hp,Bool.not_true,ckB_ix,qc,q7,qb,ckB_mk,ckB_ne,bif_lt,qe,bif_le,qa,bif_eq,qf,bif_ne,q9,qd,q5,q0,bnd_ok,lk_inl,lk_inr,Int.toNat_natCast,decide_true]
   rw [qn]
 · have e:=q123 h hyl hy i hi (n.2.1.length:Int) (i:Int) n.2.1
   simp (disch:=omega) only [q6o,e,hp,Bool.not_false,ckB_ix,qc,q7,qb,ckB_mk,ckB_ne,bif_lt,qe,bif_le,qa,bif_eq,qf,bif_ne,q9,qd,q5,q0,bnd_ok,lk_inl,lk_inr,Int.toNat_natCast,decide_true]
 · simp (disch:=omega) only [q6o,ckB_ix,qc,q7,qb,ckB_mk,ckB_ne,bif_lt,qe,bif_le,qa,bif_eq,qf,bif_ne,q9,qd,q5,q0,bnd_ok,lk_inl,lk_inr,Int.toNat_natCast,decide_true]
include h hyl hy in
theorem q10m (hyn:(y.length:Int)=n.1) (t:Nat) (ht:t < n.2.1.length) (a b:Int):ql7 y (t:Int) n.1 n.2.1 a b (0,0)=some (.inl (psum n y t y.length)):=by
 have hm:=q10 Trans.z ht
 have h1:=h.ins _ hm
 have h2:=h.outs _ hm
 refine q99 (fun i:Nat=>(psum n y t i,(i:Int))) y.length (q2i (by omega)) _ (fun i hi=>?_) ?_ _ rfl
 · have e:=At_eq (n.2.1.getD t Trans.z) (i:Int) (by omega) (by omega)
   have b1:=qgs hy (n.2.1.getD t Trans.z) i (i:Int)
   have b2:=q126 n hy t i (by omega)
   have e2:psum n y t (i+1)=psum n y t i+y.getD i 0*incB (n.2.1.getD t Trans.z) (i:Int):=rfl
   rw [e2]
   simp (disch:=omega) only [q8y,e,ckB_ix,qc,q7,qb,ckB_mk,ckB_ne,bif_lt,qe,bif_le,qa,bif_eq,qf,bif_ne,q9,qd,q5,q0,bnd_ok,lk_inl,lk_inr,Int.toNat_natCast,decide_true]
   rw [qn]
 · simp (disch:=omega) only [q8y,ckB_ix,qc,q7,qb,ckB_mk,ckB_ne,bif_lt,qe,bif_le,qa,bif_eq,qf,bif_ne,q9,qd,q5,q0,bnd_ok,lk_inl,lk_inr,Int.toNat_natCast,decide_true]
include h hyl hy in
theorem q14m (hyn:(y.length:Int)=n.1) (a b:Int):qko y n.1 n.2.1 a b 0=some (bif allP n y then .inl () else .inr (false,0)):=by
 have hl:=h.trans
 refine qdi (fun i:Nat=>(i:Int)) n.2.1.length (q2i (by omega)) (fun t=>decide (psum n y t y.length=0)) () (false,0) (fun i hi hp=>?_) (fun i hi hp=>?_) ?_
 · have e:=q10m h hyl hy hyn i hi a b
   simp (disch:=omega) only [q62,e,hp,Bool.not_true,ckB_ix,qc,q7,qb,ckB_mk,ckB_ne,bif_lt,qe,bif_le,qa,bif_eq,qf,bif_ne,q9,qd,q5,q0,bnd_ok,lk_inl,lk_inr,Int.toNat_natCast,decide_true]
   rw [qn]
 · have e:=q10m h hyl hy hyn i hi a b
   simp (disch:=omega) only [q62,e,hp,Bool.not_false,ckB_ix,qc,q7,qb,ckB_mk,ckB_ne,bif_lt,qe,bif_le,qa,bif_eq,qf,bif_ne,q9,qd,q5,q0,bnd_ok,lk_inl,lk_inr,Int.toNat_natCast,decide_true]
 · simp (disch:=omega) only [q62,ckB_ix,qc,q7,qb,ckB_mk,ckB_ne,bif_lt,qe,bif_le,qa,bif_eq,qf,bif_ne,q9,qd,q5,q0,bnd_ok,lk_inl,lk_inr,Int.toNat_natCast,decide_true]
end
theorem q114 {n:Net} (h:Small n) (y:List Int) (hyl:y.length≤1000):qd3 n y=some (isP n y):=by
 unfold qd3 isP
 rw [qui h,qjo y n.1 (by omega),qwn y (by omega)]
 cases hv:validN n with
 | false => rfl
 | true =>
   cases hn:numB n.1 y with
   | false => rfl
   | true =>
     rw [q15z h hyl (q9v hn).2]
     cases allP n y<;>rfl
theorem qx1 {n:Net} (h:Small n) (y:List Int) (hyl:y.length≤1000):qbt n y=some (isP n y):=by
 unfold qbt isP
 rw [qhg h,qd8 y n.1 (by omega),qx3 y (by omega)]
 cases hv:validN n with
 | false => rfl
 | true =>
   cases hn:numB n.1 y with
   | false => rfl
   | true =>
     rw [q14m h hyl (q9v hn).2 (q9v hn).1]
     cases allP n y<;>cases someB y<;>rfl
def esum (n:Net) (x:List Int) (p:Nat) (i:Nat):Int:=sumN (fun t=>x.getD t 0*incB (n.2.1.getD t Trans.z) (p:Int)) i
def effE (n:Net) (x:List Int):List Int:=tab n.1.toNat fun p=>esum n x p n.2.1.length
theorem qp6 (n:Net) {x:List Int} (hx:∀ i,0≤x.getD i 0∧x.getD i 0≤1048576) (p i:Nat) (hi:i≤100) : -104857600≤esum n x p i∧esum n x p i≤104857600:=by
 have h1:=qsd (f:=fun t=>x.getD t 0*incB (n.2.1.getD t Trans.z) (p:Int)) (b:=1048576) (by omega) hi fun k _=>qgs hx _ k (p:Int)
 exact ⟨by have:=h1.1; unfold esum; omega,by have:=h1.2; unfold esum; omega⟩
theorem qun (n:Net) (x:List Int):(effE n x).length=n.1.toNat:=q9n _ _
section
variable {n:Net} (h:Small n) (hN:0≤n.1∧n.1≤40) {x:List Int} (hxl:x.length=n.2.1.length) (hx:∀ i,0≤x.getD i 0∧x.getD i 0≤1048576)
include h hN hxl hx in
theorem q15w (t:Nat) (ht:t < n.2.1.length) (a b:Int) (ts:List Trans):qqp x (t:Int) ts a b (n.1.toNat:Int) (n.2.1.getD t Trans.z).1 (n.2.1.getD t Trans.z).2.1 (n.2.1.getD t Trans.z).2.2.1 (0,tab n.1.toNat fun p=>esum n x p t)=some (.inl (tab n.1.toNat fun p=>esum n x p (t+1))):=by
 have hm:=q10 Trans.z ht
 have h1:=h.ins _ hm
 have h2:=h.outs _ hm
 have hl:=h.trans
 have e0:(tab n.1.toNat fun p=>esum n x p t)=tab n.1.toNat fun p=>if p < 0 then esum n x p (t+1) else esum n x p t:=qe7 fun p _=>(if_neg (by omega)).symm
 rw [e0]
 have e1:(tab n.1.toNat fun p=>esum n x p (t+1))=tab n.1.toNat fun p=>if p < n.1.toNat then esum n x p (t+1) else esum n x p t:=qe7 fun p hp=>(if_pos hp).symm
 rw [e1]
 refine q99 (fun k:Nat=>((k:Int),tab n.1.toNat fun p=>if p < k then esum n x p (t+1) else esum n x p t)) n.1.toNat (q2i (by omega)) _ (fun k hk=>?_) ?_ _ rfl
 · have e:=qy9 (n.2.1.getD t Trans.z) (k:Int) (by omega) (by omega)
   have e':q3p ((n.2.1.getD t Trans.z).1,(n.2.1.getD t Trans.z).2.1,(n.2.1.getD t Trans.z).2.2.1,()) (k:Int)=some (incB (n.2.1.getD t Trans.z) (k:Int)):=e
   have b1:=qgs hx (n.2.1.getD t Trans.z) t (k:Int)
   have b2:=qp6 n hx k t (by omega)
   have e2:esum n x k (t+1)=esum n x k t+x.getD t 0*incB (n.2.1.getD t Trans.z) (k:Int):=rfl
   have e3:(tab n.1.toNat fun p=>if p < k then esum n x p (t+1) else esum n x p t).getD k 0=esum n x k t:=by
     rw [qtu hk,if_neg (by omega)]
   simp (disch:=omega) only [qbq,q9n,e',e3,ckB_ix,qc,q7,qb,ckB_mk,ckB_ne,bif_lt,qe,bif_le,qa,bif_eq,qf,bif_ne,q9,qd,q5,q0,bnd_ok,lk_inl,lk_inr,Int.toNat_natCast,decide_true]
   rw [qn,← e2,q11j]
   refine congrArg some (congrArg LR.next (Prod.ext rfl (qe7 fun j hj=>?_)))
   by_cases ej:j=k
   · subst ej
     rw [if_pos rfl,if_pos (by omega)]
   · rw [if_neg ej]
     by_cases hjk:j < k
     · rw [if_pos hjk,if_pos (by omega)]
     · rw [if_neg hjk,if_neg (by omega)]
 · simp (disch:=omega) only [qbq,ckB_ix,qc,q7,qb,ckB_mk,ckB_ne,bif_lt,qe,bif_le,qa,bif_eq,qf,bif_ne,q9,qd,q5,q0,bnd_ok,lk_inl,lk_inr,Int.toNat_natCast,decide_true]
include h hN hxl hx in
theorem qyd:qcr n x=some (effE n x):=by
 have hl:=h.trans
 have hL:qqj x n.2.1 (n.2.1.length:Int) (0,tab n.1.toNat fun _=>0)=some (.inl (effE n x)):=by
   refine q99 (fun i:Nat=>((i:Int),tab n.1.toNat fun p=>esum n x p i)) n.2.1.length (q2i (by omega)) _ (fun i hi=>?_) ?_ _ rfl
   · have e:=q15w h hN hxl hx i hi (n.2.1.length:Int) (i:Int) n.2.1
     simp (disch:=omega) only [qbg,q9n,e,ckB_ix,qc,q7,qb,ckB_mk,ckB_ne,bif_lt,qe,bif_le,qa,bif_eq,qf,bif_ne,q9,qd,q5,q0,bnd_ok,lk_inl,lk_inr,Int.toNat_natCast,decide_true]
     rw [qn]
   · simp (disch:=omega) only [qbg,ckB_ix,qc,q7,qb,ckB_mk,ckB_ne,bif_lt,qe,bif_le,qa,bif_eq,qf,bif_ne,q9,qd,q5,q0,bnd_ok,lk_inl,lk_inr,Int.toNat_natCast,decide_true]
     rfl
 unfold qcr
 rw [q15v,hL]
 simp (disch:=omega) only [ckB_ix,qc,q7,qb,ckB_mk,ckB_ne,bif_lt,qe,bif_le,qa,bif_eq,qf,bif_ne,q9,qd,q5,q0,bnd_ok,lk_inl,lk_inr,Int.toNat_natCast,decide_true]
include h hN hxl hx in
theorem q14f (p:Nat) (n1 n2 n3:Int) (out:List Int):qop x (p:Int) n1 n.2.1 n2 n3 out (0,0)=some (.inl (esum n x p n.2.1.length)):=by
 have hl:=h.trans
 refine q99 (fun i:Nat=>(esum n x p i,(i:Int))) n.2.1.length (q2i (by omega)) _ (fun i hi=>?_) ?_ _ rfl
 · have hm:=q10 Trans.z hi
   have h1:=h.ins _ hm
   have h2:=h.outs _ hm
   have e:=At_eq (n.2.1.getD i Trans.z) (p:Int) (by omega) (by omega)
   have b1:=qgs hx (n.2.1.getD i Trans.z) i (p:Int)
   have b2:=qp6 n hx p i (by omega)
   have e2:esum n x p (i+1)=esum n x p i+x.getD i 0*incB (n.2.1.getD i Trans.z) (p:Int):=rfl
   rw [e2]
   simp (disch:=omega) only [qab,e,ckB_ix,qc,q7,qb,ckB_mk,ckB_ne,bif_lt,qe,bif_le,qa,bif_eq,qf,bif_ne,q9,qd,q5,q0,bnd_ok,lk_inl,lk_inr,Int.toNat_natCast,decide_true]
   rw [qn]
 · simp (disch:=omega) only [qab,ckB_ix,qc,q7,qb,ckB_mk,ckB_ne,bif_lt,qe,bif_le,qa,bif_eq,qf,bif_ne,q9,qd,q5,q0,bnd_ok,lk_inl,lk_inr,Int.toNat_natCast,decide_true]
include h hN hxl hx in
theorem qrb:qav n x=some (effE n x):=by
 have hL:qoy x n.1 n.2.1 n.2.2.1 n.2.2.2.1 (0,[])=some (.inl (effE n x)):=by
   refine q99 (fun i:Nat=>((i:Int),tab i fun p=>esum n x p n.2.1.length)) n.1.toNat (q2i (by omega)) _ (fun i hi=>?_) ?_ _ rfl
   · have e:=q14f h hN hxl hx i n.1 n.2.2.1 n.2.2.2.1 (tab i fun p=>esum n x p n.2.1.length)
     rw [q150]
     simp (disch:=omega) only [qah,q9n,e,ckB_ix,qc,q7,qb,ckB_mk,ckB_ne,bif_lt,qe,bif_le,qa,bif_eq,qf,bif_ne,q9,qd,q5,q0,bnd_ok,lk_inl,lk_inr,Int.toNat_natCast,decide_true]
     rw [qn]
   · simp (disch:=omega) only [qah,ckB_ix,qc,q7,qb,ckB_mk,ckB_ne,bif_lt,qe,bif_le,qa,bif_eq,qf,bif_ne,q9,qd,q5,q0,bnd_ok,lk_inl,lk_inr,Int.toNat_natCast,decide_true]
     rfl
 unfold qav
 rw [hL]; rfl
end
def isT (n:Net) (x:List Int):Bool×Int:=bif !validN n then (false,1) else bif !numB (n.2.1.length:Int) x then (false,1) else (someB x&&!someB (effE n x),0)
theorem qup {n:Net} (h:Small n) (x:List Int) (hxl:x.length≤1000):q7t n x=some (isT n x):=by
 unfold q7t isT
 rw [qui h,qjo x _ (by omega),qwn x (by omega)]
 cases hv:validN n with
 | false => rfl
 | true =>
   cases hn:numB (n.2.1.length:Int) x with
   | false => rfl
   | true =>
     obtain ⟨v1,v2,v3⟩:=qhn hv
     obtain ⟨n1,n2⟩:=q9v hn
     rw [qyd h (by omega) (by omega) n2]
     have e:=qwn (effE n x) (by rw [qun]; omega)
     simp only [bnd_ok,e]
     cases someB x<;>cases someB (effE n x)<;>rfl
theorem qr0 {n:Net} (h:Small n) (x:List Int) (hxl:x.length≤1000):q75 n x=some (isT n x):=by
 unfold q75 isT
 rw [qhg h,qd8 x _ (by omega)]
 cases hv:validN n with
 | false => rfl
 | true =>
   cases hn:numB (n.2.1.length:Int) x with
   | false => rfl
   | true =>
     obtain ⟨v1,v2,v3⟩:=qhn hv
     obtain ⟨n1,n2⟩:=q9v hn
     rw [qrb h (by omega) (by omega) n2]
     have e:=qx3 (effE n x) (by rw [qun]; omega)
     have e2:=qx3 x (by omega)
     simp only [bnd_ok,e,e2]
     cases someB x<;>cases someB (effE n x)<;>rfl
def valO (n:Net) (y m:List Int):Int×Int:=bif validN n&&markB n.1 m&&numB n.1 y then (dotE y m,0) else (0,1)
theorem q14s {n:Net} (h:Small n) (y m:List Int) (hyl:y.length≤1000) (hml:m.length≤1000):qjf n y m=some (valO n y m):=by
 unfold qjf valO
 rw [qw4 h m (by omega),qjo y _ (by omega)]
 cases hv:validN n with
 | false => rfl
 | true =>
   cases hk:markB n.1 m with
   | false => rfl
   | true =>
     cases hn:numB n.1 y with
     | false => rfl
     | true =>
       obtain ⟨n1,n2⟩:=q9v hn
       obtain ⟨m1,m2⟩:=qhp.1 hk
       have e:=dot_eq y m (by omega) (by omega) n2 (fun i hi=>m2 i (by omega))
       simp only [bnd_ok,e]
       rfl
theorem q117 {n:Net} (h:Small n) (y m:List Int) (hyl:y.length≤1000) (hml:m.length≤1000):qhj n y m=some (valO n y m):=by
 unfold qhj valO
 rw [qhg h,qig n m (by omega),qd8 y _ (by omega)]
 cases hv:validN n with
 | false => rfl
 | true =>
   cases hn:numB n.1 y with
   | false => cases markB n.1 m<;>rfl
   | true =>
     cases hk:markB n.1 m with
     | false => rfl
     | true =>
       obtain ⟨n1,n2⟩:=q9v hn
       obtain ⟨m1,m2⟩:=qhp.1 hk
       have e:=q13y y m (by omega) (by omega) n2 (fun i hi=>m2 i (by omega))
       simp only [bnd_ok,e]
       rfl
def eqL (n:Net) (m x:List Int):List Int:=tab n.1.toNat fun p=>esum n x p n.2.1.length+m.getD p 0
def equO (n:Net) (m x:List Int):Int×List Int:=bif validN n&&markB n.1 m&&numB (n.2.1.length:Int) x then (bif (eqL n m x).any tokB then (12,[]) else (0,eqL n m x)) else (1,[])
section
variable {n:Net} (h:Small n) (hN:0≤n.1∧n.1≤40) {x:List Int} (hx:∀ i,0≤x.getD i 0∧x.getD i 0≤1048576) {m:List Int} (hm:markB n.1 m=true)
abbrev qS (n:Net) (m x:List Int) (i:Nat):List Int:=tab n.1.toNat fun p=>if p < i then esum n x p n.2.1.length+m.getD p 0 else esum n x p n.2.1.length
theorem qS_set (n:Net) (m x:List Int) {i:Nat} (hi:i < n.1.toNat):(qS n m x i).set i (esum n x i n.2.1.length+m.getD i 0)=qS n m x (i+1):=by
 unfold qS
 rw [q11j]
 refine qe7 fun j hj=>?_
 by_cases ej:j=i
 · subst ej
   rw [if_pos rfl,if_pos (by omega)]
 · rw [if_neg ej]
   by_cases hjk:j < i
   · rw [if_pos hjk,if_pos (by omega)]
   · rw [if_neg hjk,if_neg (by omega)]
theorem qS_at (n:Net) (m x:List Int) {i:Nat} (hi:i < n.1.toNat):(qS n m x i).getD i 0=esum n x i n.2.1.length∧(qS n m x (i+1)).getD i 0=esum n x i n.2.1.length+m.getD i 0:=by
 unfold qS
 rw [qtu hi,qtu hi,if_neg (by omega),if_pos (by omega)]
 exact ⟨rfl,rfl⟩
theorem qS_end (n:Net) (m x:List Int):qS n m x n.1.toNat=eqL n m x:=qe7 fun p hp=>if_pos hp
theorem q11r (n:Net) (m x:List Int):effE n x=qS n m x 0:=qe7 fun p hp=>(if_neg (by omega)).symm
include h hN hx hm in
theorem q14w:qmf m ((effE n x).length:Int) (0,effE n x)=some (bif (eqL n m x).any tokB then .inr (12,[]) else .inl (eqL n m x)):=by
 obtain ⟨m1,m2⟩:=qhp.1 hm
 have hl:=h.trans
 have e:(eqL n m x).any tokB=!(List.range n.1.toNat).all (fun p=>!tokB (esum n x p n.2.1.length+m.getD p 0)):=by
   unfold eqL tab
   rw [List.any_map,Bool.eq_iff_iff]
   simp
 have hh:=qdi (step:=fun a:Int×List Int=>q35 (R:=LR (Int×List Int) (List Int) (Int×List Int)) m (n.1.toNat:Int) a.1 a.2 (fun a'=>some (.next a')) (fun e=>some (.done e)) (fun r=>some (.ret r)))
   (fun i:Nat=>((i:Int),qS n m x i)) n.1.toNat (q2i (by omega)) (fun p=>!tokB (esum n x p n.2.1.length+m.getD p 0)) (eqL n m x) (12,[]) (fun i hi hp=>by
     obtain ⟨a1,a2⟩:=qS_at n m x hi
     have a3:=qS_set n m x hi
     have b1:=qp6 n hx i n.2.1.length (by omega)
     have b2:=m2 i (by omega)
     have hlen:(qS n m x i).length=n.1.toNat:=q9n _ _
     have hlen':(qS n m x (i+1)).length=n.1.toNat:=q9n _ _
     unfold tokB at hp
     rw [Bool.not_eq_true',Bool.or_eq_false_iff,decide_eq_false_iff_not,decide_eq_false_iff_not] at hp
     obtain ⟨p1,p2⟩:=hp
     simp (disch:=omega) only [q35,a1,a3,a2,ckB_ix,qc,q7,qb,ckB_mk,ckB_ne,bif_lt,qe,bif_le,qa,bif_eq,qf,bif_ne,q9,qd,q5,q0,bnd_ok,lk_inl,lk_inr,Int.toNat_natCast,decide_true]
     rw [qn]) (fun i hi hp=>by
     obtain ⟨a1,a2⟩:=qS_at n m x hi
     have a3:=qS_set n m x hi
     have b1:=qp6 n hx i n.2.1.length (by omega)
     have b2:=m2 i (by omega)
     have hlen:(qS n m x i).length=n.1.toNat:=q9n _ _
     have hlen':(qS n m x (i+1)).length=n.1.toNat:=q9n _ _
     unfold tokB at hp
     rw [Bool.not_eq_false',Bool.or_eq_true,decide_eq_true_eq,decide_eq_true_eq] at hp
     by_cases p1:esum n x i n.2.1.length+m.getD i 0 < 0
     · simp (disch:=omega) only [q35,a1,a3,a2,ckB_ix,qc,q7,qb,ckB_mk,ckB_ne,bif_lt,qe,bif_le,qa,bif_eq,qf,bif_ne,q9,qd,q5,q0,bnd_ok,lk_inl,lk_inr,Int.toNat_natCast,decide_true]
     · have p2:=hp.resolve_left p1
       simp (disch:=omega) only [q35,a1,a3,a2,ckB_ix,qc,q7,qb,ckB_mk,ckB_ne,bif_lt,qe,bif_le,qa,bif_eq,qf,bif_ne,q9,qd,q5,q0,bnd_ok,lk_inl,lk_inr,Int.toNat_natCast,decide_true]) (by
     rw [← qS_end]
     simp (disch:=omega) only [q35,ckB_ix,qc,q7,qb,ckB_mk,ckB_ne,bif_lt,qe,bif_le,qa,bif_eq,qf,bif_ne,q9,qd,q5,q0,bnd_ok,lk_inl,lk_inr,Int.toNat_natCast,decide_true])
 rw [qun,q11r n m x]
 refine hh.trans ?_
 rw [e]
 cases (List.range n.1.toNat).all (fun p=>!tokB (esum n x p n.2.1.length+m.getD p 0))<;>rfl
include h hN hx hm in
theorem q148:qkl m n.1 n.2.1 n.2.2.1 n.2.2.2.1 (0,effE n x)=some (.inl (eqL n m x)):=by
 obtain ⟨m1,m2⟩:=qhp.1 hm
 have hl:=h.trans
 rw [q11r n m x,← qS_end]
 refine q99 (fun i:Nat=>((i:Int),qS n m x i)) n.1.toNat (q2i (by omega)) _ (fun i hi=>?_) ?_ _ rfl
 · obtain ⟨a1,a2⟩:=qS_at n m x hi
   have a3:=qS_set n m x hi
   have b1:=qp6 n hx i n.2.1.length (by omega)
   have b2:=m2 i (by omega)
   have hlen:(qS n m x i).length=n.1.toNat:=q9n _ _
   simp (disch:=omega) only [q90,a1,a3,ckB_ix,qc,q7,qb,ckB_mk,ckB_ne,bif_lt,qe,bif_le,qa,bif_eq,qf,bif_ne,q9,qd,q5,q0,bnd_ok,lk_inl,lk_inr,Int.toNat_natCast,decide_true]
   rw [qn]
 · simp (disch:=omega) only [q90,ckB_ix,qc,q7,qb,ckB_mk,ckB_ne,bif_lt,qe,bif_le,qa,bif_eq,qf,bif_ne,q9,qd,q5,q0,bnd_ok,lk_inl,lk_inr,Int.toNat_natCast,decide_true]
end
theorem q10x {n:Net} (h:Small n) (m x:List Int) (hml:m.length≤1000) (hxl:x.length≤1000):qd4 n m x=some (equO n m x):=by
 unfold qd4 equO
 rw [qw4 h m (by omega),qjo x _ (by omega)]
 cases hv:validN n with
 | false => rfl
 | true =>
   cases hk:markB n.1 m with
   | false => rfl
   | true =>
     cases hn:numB (n.2.1.length:Int) x with
     | false => rfl
     | true =>
       obtain ⟨n1,n2⟩:=q9v hn
       obtain ⟨v1,v2,v3⟩:=qhn hv
       have e1:=qyd h (by omega) (by omega) n2
       have e2:=q14w h (by omega) n2 hk
       simp only [bnd_ok,e1,e2]
       cases (eqL n m x).any tokB<;>rfl
theorem qx4 {n:Net} (h:Small n) (m x:List Int) (hml:m.length≤1000) (hxl:x.length≤1000):qbv n m x=some (equO n m x):=by
 unfold qbv equO
 rw [qhg h,qig n m (by omega),qd8 x _ (by omega)]
 cases hv:validN n with
 | false => rfl
 | true =>
   cases hn:numB (n.2.1.length:Int) x with
   | false => cases markB n.1 m<;>rfl
   | true =>
     cases hk:markB n.1 m with
     | false => rfl
     | true =>
       obtain ⟨n1,n2⟩:=q9v hn
       obtain ⟨v1,v2,v3⟩:=qhn hv
       have e1:=qrb h (by omega) (by omega) n2
       have e2:=q148 h (by omega) n2 hk
       have hlen:(eqL n m x).length=n.1.toNat:=q9n _ _
       have e3:=qig n (eqL n m x) (by omega)
       have e4:markB n.1 (eqL n m x)=!(eqL n m x).any tokB:=by
         unfold markB
         rw [decide_eq_true (by omega)]
         rfl
       rw [e4] at e3
       simp only [bnd_ok,e1,e2,e3,lk_inl]
       cases (eqL n m x).any tokB<;>rfl
theorem qvf (n:Net) (y x m:List Int) (hl:n.2.1.length≤9223372036854775807):qdz n y x m=some true:=by
 obtain ⟨b,hb,hF⟩:=few_eq n hl
 unfold qdz
 rw [q12o,hb]
 cases b with
 | false => rfl
 | true =>
   obtain ⟨h,_⟩:=hF rfl
   by_cases h1:(60:Int) < (y.length:Int)
   · simp (disch:=omega) only [Bool.not_true,ckB_ix,qc,q7,qb,ckB_mk,ckB_ne,bif_lt,qe,bif_le,qa,bif_eq,qf,bif_ne,q9,qd,q5,q0,bnd_ok,lk_inl,lk_inr,Int.toNat_natCast,decide_true]
   · by_cases h2:(80:Int) < (x.length:Int)
     · simp (disch:=omega) only [Bool.not_true,ckB_ix,qc,q7,qb,ckB_mk,ckB_ne,bif_lt,qe,bif_le,qa,bif_eq,qf,bif_ne,q9,qd,q5,q0,bnd_ok,lk_inl,lk_inr,Int.toNat_natCast,decide_true]
     · by_cases h3:(60:Int) < (m.length:Int)
       · simp (disch:=omega) only [Bool.not_true,ckB_ix,qc,q7,qb,ckB_mk,ckB_ne,bif_lt,qe,bif_le,qa,bif_eq,qf,bif_ne,q9,qd,q5,q0,bnd_ok,lk_inl,lk_inr,Int.toNat_natCast,decide_true]
       · have hq:q42 (equO n m x).2 (equO n m x).2=some true:=q135 _ (by
           unfold equO
           cases hc:validN n&&markB n.1 m&&numB (n.2.1.length:Int) x with
           | false => exact Nat.zero_le _
           | true =>
             rw [Bool.and_eq_true,Bool.and_eq_true] at hc
             have hv:=qhn hc.1.1
             cases (eqL n m x).any tokB with
             | true => exact Nat.zero_le _
             | false =>
               show (eqL n m x).length≤1000000
               unfold eqL
               rw [q9n]
               omega)
         simp (disch:=omega) only [Bool.not_true,q114 h y (by omega),qx1 h y (by omega),qup h x (by omega),qr0 h x (by omega),q14s h y m (by omega) (by omega),q117 h y m (by omega) (by omega),q10x h m x (by omega) (by omega),qx4 h m x (by omega) (by omega),BEq.rfl,hq,ckB_ix,qc,q7,qb,ckB_mk,ckB_ne,bif_lt,qe,bif_le,qa,bif_eq,qf,bif_ne,q9,qd,q5,q0,bnd_ok,lk_inl,lk_inr,Int.toNat_natCast,decide_true]
end Go.Proofs.Ythakmiiaejhlbaa
