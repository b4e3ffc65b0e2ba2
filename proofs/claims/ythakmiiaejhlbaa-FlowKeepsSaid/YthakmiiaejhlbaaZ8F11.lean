/-
  Flow: which lists are invariants, values, the equation; the law FlowChecks.
-/
import Derived.Test.YthakmiiaejhlbaaZ8F10
set_option linter.all false
namespace Go.Proofs.Ythakmiiaejhlbaa
open Go.K Go.M
def badK (k:Int):Bool:=decide (k < 0)||decide (1048576 < k)
def numB (N:Int) (l:List Int):Bool:=decide ((l.length:Int)=N)&&!l.any badK
def someB (l:List Int):Bool:=l.any fun k=>!decide (k=0)
theorem qu9 {N:Int} {l:List Int} (h:numB N l=true):(l.length:Int)=N∧∀ i,0≤l.getD i 0∧l.getD i 0≤1048576:=by
 unfold numB at h
 rw [Bool.and_eq_true,decide_eq_true_eq,Bool.not_eq_true',List.any_eq_false] at h
 refine ⟨h.1,fun i=>?_⟩
 by_cases hi:i < l.length
 · have:=h.2 _ (qq 0 hi)
   unfold badK at this
   simp only [Bool.or_eq_true,decide_eq_true_eq,not_or] at this
   omega
 · rw [List.getD_eq_getElem?_getD,List.getElem?_eq_none (by omega)]
   show (0:Int)≤0∧(0:Int)≤1048576
   omega
theorem qpf (l:List Int) (N:Int) (hl:l.length≤1000000):qb2 l N=some (numB N l):=by
 have hL:qa3 l (l.length:Int) 0=some (fOut (fun i=>(i:Int)) (fidx badK l)):=by
   refine qcd l 0 badK (fun i=>(i:Int)) (by omega) (fun i hi=>?_) ?_
   · unfold badK
     simp (disch:=omega) only [q2x,qhv,ckB_ix,q6,q5,qc,ckB_mk,ckB_ne,bif_lt,q8,bif_le,qa,bif_eq,q9,bif_ne,q7,qb,q4,q0,bnd_ok,lk_inl,lk_inr,Int.toNat_natCast,decide_true]
     rw [qg]
     cases decide (l.getD i 0 < 0)<;>cases decide (1048576 < l.getD i 0)<;>rfl
   · simp (disch:=omega) only [q2x,ckB_ix,q6,q5,qc,ckB_mk,ckB_ne,bif_lt,q8,bif_le,qa,bif_eq,q9,bif_ne,q7,qb,q4,q0,bnd_ok,lk_inl,lk_inr,Int.toNat_natCast,decide_true]
 have hC:q37 l=some (l.any badK):=by
   unfold q37 q6u
   rw [hL,bnd_ok,qi2,bnd_ok,qhf]
 unfold qb2 numB
 rw [hC]
 cases decide ((l.length:Int)=N)<;>rfl
theorem q11b (l:List Int) (hl:l.length≤1000000):qil l=some (someB l):=by
 have hL:qa2 l (l.length:Int) 0=some (fOut (fun i=>(i:Int)) (fidx (fun k=>!decide (k=0)) l)):=by
   refine qcd l 0 (fun k=>!decide (k=0)) (fun i=>(i:Int)) (by omega) (fun i hi=>?_) ?_
   · simp (disch:=omega) only [q36,qn2,ckB_ix,q6,q5,qc,ckB_mk,ckB_ne,bif_lt,q8,bif_le,qa,bif_eq,q9,bif_ne,q7,qb,q4,q0,bnd_ok,lk_inl,lk_inr,Int.toNat_natCast,decide_true]
     rw [qg]
     cases decide (l.getD i 0=0)<;>rfl
   · simp (disch:=omega) only [q36,ckB_ix,q6,q5,qc,ckB_mk,ckB_ne,bif_lt,q8,bif_le,qa,bif_eq,q9,bif_ne,q7,qb,q4,q0,bnd_ok,lk_inl,lk_inr,Int.toNat_natCast,decide_true]
 unfold qil q57 q6z someB
 rw [hL,bnd_ok,qi2,bnd_ok,bnd_ok,qhf]
theorem qz1 {y:List Int} (hy:∀ i,0≤y.getD i 0∧y.getD i 0≤1048576) (t:Trans) (i:Nat) (p:Int) : -1048576≤y.getD i 0*incB t p∧y.getD i 0*incB t p≤1048576:=by
 have h1:=hy i
 have:=q9l (a:=1048576) (b:=1) (x:=y.getD i 0) (y:=incB t p) (by omega) (q124 t p)
 omega
def esum (n:Net) (x:List Int) (p:Nat) (i:Nat):Int:=sumN (fun t=>x.getD t 0*incB (n.2.1.getD t Trans.z) (p:Int)) i
def effE (n:Net) (x:List Int):List Int:=tab n.1.toNat fun p=>esum n x p n.2.1.length
theorem qw9 (n:Net) {x:List Int} (hx:∀ i,0≤x.getD i 0∧x.getD i 0≤1048576) (p i:Nat) (hi:i≤100) : -104857600≤esum n x p i∧esum n x p i≤104857600:=by
 have h1:=qxs (f:=fun t=>x.getD t 0*incB (n.2.1.getD t Trans.z) (p:Int)) (b:=1048576) (by omega) hi fun k _=>qz1 hx _ k (p:Int)
 exact ⟨by have:=h1.1; unfold esum; omega,by have:=h1.2; unfold esum; omega⟩
theorem qp5 (n:Net) (x:List Int):(effE n x).length=n.1.toNat:=q2f _ _
section
variable {n:Net} (h:Small n) (hN:0≤n.1∧n.1≤40) {x:List Int} (hxl:x.length=n.2.1.length) (hx:∀ i,0≤x.getD i 0∧x.getD i 0≤1048576)
include h hN hxl hx in
theorem q17a (t:Nat) (ht:t < n.2.1.length) (a b:Int) (ts:List Trans):qqg x (t:Int) ts a b (n.1.toNat:Int) (n.2.1.getD t Trans.z).1 (n.2.1.getD t Trans.z).2.1 (n.2.1.getD t Trans.z).2.2.1 (0,tab n.1.toNat fun p=>esum n x p t)=some (.inl (tab n.1.toNat fun p=>esum n x p (t+1))):=by
 have hm:=qq Trans.z ht
 have h1:=h.ins _ hm
 have h2:=h.outs _ hm
 have hl:=h.trans
 have e0:(tab n.1.toNat fun p=>esum n x p t)=tab n.1.toNat fun p=>if p < 0 then esum n x p (t+1) else esum n x p t:=q4u fun p _=>(if_neg (by omega)).symm
 rw [e0]
 have e1:(tab n.1.toNat fun p=>esum n x p (t+1))=tab n.1.toNat fun p=>if p < n.1.toNat then esum n x p (t+1) else esum n x p t:=q4u fun p hp=>(if_pos hp).symm
 rw [e1]
 refine q1r (fun k:Nat=>((k:Int),tab n.1.toNat fun p=>if p < k then esum n x p (t+1) else esum n x p t)) n.1.toNat (q13 (by omega)) _ (fun k hk=>?_) ?_ _ rfl
 · have e:=qx9 (n.2.1.getD t Trans.z) (k:Int) (by omega) (by omega)
   have e':q82 ((n.2.1.getD t Trans.z).1,(n.2.1.getD t Trans.z).2.1,(n.2.1.getD t Trans.z).2.2.1,()) (k:Int)=some (incB (n.2.1.getD t Trans.z) (k:Int)):=e
   have b1:=qz1 hx (n.2.1.getD t Trans.z) t (k:Int)
   have b2:=qw9 n hx k t (by omega)
   have e2:esum n x k (t+1)=esum n x k t+x.getD t 0*incB (n.2.1.getD t Trans.z) (k:Int):=rfl
   have e3:(tab n.1.toNat fun p=>if p < k then esum n x p (t+1) else esum n x p t).getD k 0=esum n x k t:=by
     rw [q6f hk,if_neg (by omega)]
   simp (disch:=omega) only [qd2,q2f,e',e3,ckB_ix,q6,q5,qc,ckB_mk,ckB_ne,bif_lt,q8,bif_le,qa,bif_eq,q9,bif_ne,q7,qb,q4,q0,bnd_ok,lk_inl,lk_inr,Int.toNat_natCast,decide_true]
   rw [qg,← e2,qog]
   refine congrArg some (congrArg LR.next (Prod.ext rfl (q4u fun j hj=>?_)))
   by_cases ej:j=k
   · subst ej
     rw [if_pos rfl,if_pos (by omega)]
   · rw [if_neg ej]
     by_cases hjk:j < k
     · rw [if_pos hjk,if_pos (by omega)]
     · rw [if_neg hjk,if_neg (by omega)]
 · simp (disch:=omega) only [qd2,ckB_ix,q6,q5,qc,ckB_mk,ckB_ne,bif_lt,q8,bif_le,qa,bif_eq,q9,bif_ne,q7,qb,q4,q0,bnd_ok,lk_inl,lk_inr,Int.toNat_natCast,decide_true]
include h hN hxl hx in
theorem qwz:qee n x=some (effE n x):=by
 have hl:=h.trans
 have hL:qq6 x n.2.1 (n.2.1.length:Int) (0,tab n.1.toNat fun _=>0)=some (.inl (effE n x)):=by
   refine q1r (fun i:Nat=>((i:Int),tab n.1.toNat fun p=>esum n x p i)) n.2.1.length (q13 (by omega)) _ (fun i hi=>?_) ?_ _ rfl
   · have e:=q17a h hN hxl hx i hi (n.2.1.length:Int) (i:Int) n.2.1
     simp (disch:=omega) only [qda,q2f,e,ckB_ix,q6,q5,qc,ckB_mk,ckB_ne,bif_lt,q8,bif_le,qa,bif_eq,q9,bif_ne,q7,qb,q4,q0,bnd_ok,lk_inl,lk_inr,Int.toNat_natCast,decide_true]
     rw [qg]
   · simp (disch:=omega) only [qda,ckB_ix,q6,q5,qc,ckB_mk,ckB_ne,bif_lt,q8,bif_le,qa,bif_eq,q9,bif_ne,q7,qb,q4,q0,bnd_ok,lk_inl,lk_inr,Int.toNat_natCast,decide_true]
     rfl
 unfold qee
 rw [qwe,hL]
 simp (disch:=omega) only [ckB_ix,q6,q5,qc,ckB_mk,ckB_ne,bif_lt,q8,bif_le,qa,bif_eq,q9,bif_ne,q7,qb,q4,q0,bnd_ok,lk_inl,lk_inr,Int.toNat_natCast,decide_true]
include h hN hxl hx in
include h hN hxl hx in
end
def isT (n:Net) (x:List Int):Bool×Int:=bif !validN n then (false,1) else bif !numB (n.2.1.length:Int) x then (false,1) else (someB x&&!someB (effE n x),0)
theorem qu5 {n:Net} (h:Small n) (x:List Int) (hxl:x.length≤1000):q6t n x=some (isT n x):=by
 unfold q6t isT
 rw [qtn h,qpf x _ (by omega),q11b x (by omega)]
 cases hv:validN n with
 | false => rfl
 | true =>
   cases hn:numB (n.2.1.length:Int) x with
   | false => rfl
   | true =>
     obtain ⟨v1,v2,v3⟩:=qf8 hv
     obtain ⟨n1,n2⟩:=qu9 hn
     rw [qwz h (by omega) (by omega) n2]
     have e:=q11b (effE n x) (by rw [qp5]; omega)
     simp only [bnd_ok,e]
     cases someB x<;>cases someB (effE n x)<;>rfl
def valO (n:Net) (y m:List Int):Int×Int:=bif validN n&&markB n.1 m&&numB n.1 y then (dotE y m,0) else (0,1)
theorem qyt {n:Net} (h:Small n) (y m:List Int) (hyl:y.length≤1000) (hml:m.length≤1000):q7s n y m=some (valO n y m):=by
 unfold q7s valO
 rw [qox h m (by omega),qpf y _ (by omega)]
 cases hv:validN n with
 | false => rfl
 | true =>
   cases hk:markB n.1 m with
   | false => rfl
   | true =>
     cases hn:numB n.1 y with
     | false => rfl
     | true =>
       obtain ⟨n1,n2⟩:=qu9 hn
       obtain ⟨m1,m2⟩:=q4v.1 hk
       have e:=dot_eq y m (by omega) (by omega) n2 (fun i hi=>m2 i (by omega))
       simp only [bnd_ok,e]
       rfl
def eqL (n:Net) (m x:List Int):List Int:=tab n.1.toNat fun p=>esum n x p n.2.1.length+m.getD p 0
def equO (n:Net) (m x:List Int):Int×List Int:=bif validN n&&markB n.1 m&&numB (n.2.1.length:Int) x then (bif (eqL n m x).any tokB then (12,[]) else (0,eqL n m x)) else (1,[])
section
variable {n:Net} (h:Small n) (hN:0≤n.1∧n.1≤40) {x:List Int} (hx:∀ i,0≤x.getD i 0∧x.getD i 0≤1048576) {m:List Int} (hm:markB n.1 m=true)
abbrev qS (n:Net) (m x:List Int) (i:Nat):List Int:=tab n.1.toNat fun p=>if p < i then esum n x p n.2.1.length+m.getD p 0 else esum n x p n.2.1.length
theorem qS_set (n:Net) (m x:List Int) {i:Nat} (hi:i < n.1.toNat):(qS n m x i).set i (esum n x i n.2.1.length+m.getD i 0)=qS n m x (i+1):=by
 unfold qS
 rw [qog]
 refine q4u fun j hj=>?_
 by_cases ej:j=i
 · subst ej
   rw [if_pos rfl,if_pos (by omega)]
 · rw [if_neg ej]
   by_cases hjk:j < i
   · rw [if_pos hjk,if_pos (by omega)]
   · rw [if_neg hjk,if_neg (by omega)]
theorem qS_at (n:Net) (m x:List Int) {i:Nat} (hi:i < n.1.toNat):(qS n m x i).getD i 0=esum n x i n.2.1.length∧(qS n m x (i+1)).getD i 0=esum n x i n.2.1.length+m.getD i 0:=by
 unfold qS
 rw [q6f hi,q6f hi,if_neg (by omega),if_pos (by omega)]
 exact ⟨rfl,rfl⟩
theorem qS_end (n:Net) (m x:List Int):qS n m x n.1.toNat=eqL n m x:=q4u fun p hp=>if_pos hp
theorem q16j (n:Net) (m x:List Int):effE n x=qS n m x 0:=q4u fun p hp=>(if_neg (by omega)).symm
include h hN hx hm in
theorem q14u:qmf m ((effE n x).length:Int) (0,effE n x)=some (bif (eqL n m x).any tokB then .inr (12,[]) else .inl (eqL n m x)):=by
 obtain ⟨m1,m2⟩:=q4v.1 hm
 have hl:=h.trans
 have e:(eqL n m x).any tokB=!(List.range n.1.toNat).all (fun p=>!tokB (esum n x p n.2.1.length+m.getD p 0)):=by
   unfold eqL tab
   rw [List.any_map,Bool.eq_iff_iff]
   simp
 have hh:=qky (step:=fun a:Int×List Int=>q4r (R:=LR (Int×List Int) (List Int) (Int×List Int)) m (n.1.toNat:Int) a.1 a.2 (fun a'=>some (.next a')) (fun e=>some (.done e)) (fun r=>some (.ret r)))
   (fun i:Nat=>((i:Int),qS n m x i)) n.1.toNat (q13 (by omega)) (fun p=>!tokB (esum n x p n.2.1.length+m.getD p 0)) (eqL n m x) (12,[]) (fun i hi hp=>by
     obtain ⟨a1,a2⟩:=qS_at n m x hi
     have a3:=qS_set n m x hi
     have b1:=qw9 n hx i n.2.1.length (by omega)
     have b2:=m2 i (by omega)
     have hlen:(qS n m x i).length=n.1.toNat:=q2f _ _
     have hlen':(qS n m x (i+1)).length=n.1.toNat:=q2f _ _
     unfold tokB at hp
     rw [Bool.not_eq_true',Bool.or_eq_false_iff,decide_eq_false_iff_not,decide_eq_false_iff_not] at hp
     obtain ⟨p1,p2⟩:=hp
     simp (disch:=omega) only [q4r,a1,a3,a2,ckB_ix,q6,q5,qc,ckB_mk,ckB_ne,bif_lt,q8,bif_le,qa,bif_eq,q9,bif_ne,q7,qb,q4,q0,bnd_ok,lk_inl,lk_inr,Int.toNat_natCast,decide_true]
     rw [qg]) (fun i hi hp=>by
     obtain ⟨a1,a2⟩:=qS_at n m x hi
     have a3:=qS_set n m x hi
     have b1:=qw9 n hx i n.2.1.length (by omega)
     have b2:=m2 i (by omega)
     have hlen:(qS n m x i).length=n.1.toNat:=q2f _ _
     have hlen':(qS n m x (i+1)).length=n.1.toNat:=q2f _ _
     unfold tokB at hp
     rw [Bool.not_eq_false',Bool.or_eq_true,decide_eq_true_eq,decide_eq_true_eq] at hp
     by_cases p1:esum n x i n.2.1.length+m.getD i 0 < 0
     · simp (disch:=omega) only [q4r,a1,a3,a2,ckB_ix,q6,q5,qc,ckB_mk,ckB_ne,bif_lt,q8,bif_le,qa,bif_eq,q9,bif_ne,q7,qb,q4,q0,bnd_ok,lk_inl,lk_inr,Int.toNat_natCast,decide_true]
     · have p2:=hp.resolve_left p1
       simp (disch:=omega) only [q4r,a1,a3,a2,ckB_ix,q6,q5,qc,ckB_mk,ckB_ne,bif_lt,q8,bif_le,qa,bif_eq,q9,bif_ne,q7,qb,q4,q0,bnd_ok,lk_inl,lk_inr,Int.toNat_natCast,decide_true]) (by
     rw [← qS_end]
     simp (disch:=omega) only [q4r,ckB_ix,q6,q5,qc,ckB_mk,ckB_ne,bif_lt,q8,bif_le,qa,bif_eq,q9,bif_ne,q7,qb,q4,q0,bnd_ok,lk_inl,lk_inr,Int.toNat_natCast,decide_true])
 rw [qp5,q16j n m x]
 refine hh.trans ?_
 rw [e]
 cases (List.range n.1.toNat).all (fun p=>!tokB (esum n x p n.2.1.length+m.getD p 0))<;>rfl
include h hN hx hm in
end
theorem q10f {n:Net} (h:Small n) (m x:List Int) (hml:m.length≤1000) (hxl:x.length≤1000):qbi n m x=some (equO n m x):=by
 unfold qbi equO
 rw [qox h m (by omega),qpf x _ (by omega)]
 cases hv:validN n with
 | false => rfl
 | true =>
   cases hk:markB n.1 m with
   | false => rfl
   | true =>
     cases hn:numB (n.2.1.length:Int) x with
     | false => rfl
     | true =>
       obtain ⟨n1,n2⟩:=qu9 hn
       obtain ⟨v1,v2,v3⟩:=qf8 hv
       have e1:=qwz h (by omega) (by omega) n2
       have e2:=q14u h (by omega) n2 hk
       simp only [bnd_ok,e1,e2]
       cases (eqL n m x).any tokB<;>rfl
end Go.Proofs.Ythakmiiaejhlbaa
