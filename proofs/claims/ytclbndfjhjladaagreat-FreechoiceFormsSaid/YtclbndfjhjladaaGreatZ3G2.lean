/-
  Freechoice: free-choice nets, lists with a common number.
-/
import Derived.Test.YtclbndfjhjladaaGreatZ3G1
set_option linter.all false
namespace Go.Proofs.YtclbndfjhjladaaGreat
open Go.K Go.M
theorem q1fo (a b:List Int) (ha:a.length≤1000000):q4q a b=some (decide (a=b)):=by
 unfold q4q
 by_cases hl:a.length=b.length
 · rw [qt4 (by simp [hl])]
   have hloop:qji a b (a.length:Int) 0=some (bif (List.range a.length).all (fun i=>decide (a.getD i 0=b.getD i 0)) then .inl () else .inr false):=by
     refine q6q (fun i:Nat=>(i:Int)) a.length (q24 (by omega)) _ () false ?_ ?_ ?_
     · intro i hi hp
       have hp':a.getD i 0=b.getD i 0:=of_decide_eq_true hp
       simp (disch:=omega) only [q32,ckB_ix,qg,qc,qk,ckB_mk,ckB_ne,bif_lt,qf,bif_le,qh,bif_eq,qe,bif_ne,qj,qi,qb,qa,bnd_ok,lk_inl,lk_inr,Int.toNat_natCast,decide_true]
       rw [qp]
     · intro i hi hp
       have hp':a.getD i 0≠b.getD i 0:=of_decide_eq_false hp
       simp (disch:=omega) only [q32,ckB_ix,qg,qc,qk,ckB_mk,ckB_ne,bif_lt,qf,bif_le,qh,bif_eq,qe,bif_ne,qj,qi,qb,qa,bnd_ok,lk_inl,lk_inr,Int.toNat_natCast,decide_true]
     · simp (disch:=omega) only [q32,ckB_ix,qg,qc,qk,ckB_mk,ckB_ne,bif_lt,qf,bif_le,qh,bif_eq,qe,bif_ne,qj,qi,qb,qa,bnd_ok,lk_inl,lk_inr,Int.toNat_natCast,decide_true]
   rw [hloop,bnd_ok]
   have hall:(List.range a.length).all (fun i=>decide (a.getD i 0=b.getD i 0))=decide (a=b):=by
     rw [Bool.eq_iff_iff,List.all_eq_true,decide_eq_true_iff]
     constructor
     · intro h
       refine List.ext_getElem hl fun i h1 h2=>?_
       have:=of_decide_eq_true (h i (List.mem_range.2 h1))
       rw [qcc a i 0 h1,qcc b i 0 h2] at this
       exact this
     · rintro rfl i _
       simp
   rw [hall]
   cases decide (a=b)<;>rfl
 · have:¬ a=b:=fun h=>hl (by rw [h])
   rw [qsz (by simp; omega),decide_eq_false this]
def comB (a b:List Int):Bool:=a.any (memB b)
def frB (a b:List Int):Bool:=!comB a b||decide (a=b)
def freeN (ts:List Trans):Bool:=(List.range ts.length).all fun i=>(List.range i).all fun k=>frB (ts.getD i Trans.z).2.1 (ts.getD k Trans.z).2.1
theorem q1if (a:List Int) (t:Trans) (ha:a.length≤1000000) (ht:t.2.1.length≤1000000):q2b a t=some (comB a t.2.1):=by
 have h1:∀ x,q8n x t=some (memB t.2.1 x):=fun x=>by
   unfold q8n
   simp (disch:=omega) only [ckB_ix,qg,qc,qk,ckB_mk,ckB_ne,bif_lt,qf,bif_le,qh,bif_eq,qe,bif_ne,qj,qi,qb,qa,bnd_ok,lk_inl,lk_inr,Int.toNat_natCast,decide_true]
   rw [qxa _ ht]
   rfl
 have hL:qbf a t (a.length:Int) 0=some (fOut (fun i=>(i:Int)) (fidx (memB t.2.1) a)):=by
   refine qmv a 0 (memB t.2.1) (fun i=>(i:Int)) (by omega) (fun i hi=>?_) ?_
   · simp (disch:=omega) only [q2f,h1,ckB_ix,qg,qc,qk,ckB_mk,ckB_ne,bif_lt,qf,bif_le,qh,bif_eq,qe,bif_ne,qj,qi,qb,qa,bnd_ok,lk_inl,lk_inr,Int.toNat_natCast,decide_true]
     rw [qp]
     exact qq7
   · simp (disch:=omega) only [q2f,ckB_ix,qg,qc,qk,ckB_mk,ckB_ne,bif_lt,qf,bif_le,qh,bif_eq,qe,bif_ne,qj,qi,qb,qa,bnd_ok,lk_inl,lk_inr,Int.toNat_natCast,decide_true]
 unfold q2b q63
 rw [hL,bnd_ok,qzs,bnd_ok,qzj]
 rfl
theorem q1dm (a b:List Int) (ha:a.length≤1000000) (hb:b.length≤1000000):qo9 a b=some (comB a b):=by
 have hL:qym a b 0=some (bif a.any (memB b) then .inr true else .inl ()):=by
   refine qdi a 0 (memB b) true (by omega) (fun i hi=>?_) ?_
   · simp (disch:=omega) only [qf4,ckB_ix,qg,qc,qk,ckB_mk,ckB_ne,bif_lt,qf,bif_le,qh,bif_eq,qe,bif_ne,qj,qi,qb,qa,bnd_ok,lk_inl,lk_inr,Int.toNat_natCast,decide_true]
     rw [Has_eq _ hb,qp,bnd_ok]
     exact qq7
   · simp (disch:=omega) only [qf4,ckB_ix,qg,qc,qk,ckB_mk,ckB_ne,bif_lt,qf,bif_le,qh,bif_eq,qe,bif_ne,qj,qi,qb,qa,bnd_ok,lk_inl,lk_inr,Int.toNat_natCast,decide_true]
 unfold qo9 comB
 rw [hL]
 cases a.any (memB b)<;>rfl
theorem qqk {b:Bool}:(lk (bif b then (.inl ():Unit⊕Bool) else .inr false) (fun _=>some true) fun r=>some r)=some b:=by cases b<;>rfl
section
variable {ts:List Trans} (hl:ts.length≤100) (hi':∀ t∈ts,t.2.1.length≤60)
include hl hi'
theorem q1gz {i:Nat} (hi:i < ts.length) (a b c d e:Int) (x1:ByteArray) (x3:List Int) :
   qpy ts a b (ts.take i) ((ts.take i).length:Int) c ts d e x1 (ts.getD i Trans.z).2.1 x3 0=some (bif (List.range i).all (fun k=>frB (ts.getD i Trans.z).2.1 (ts.getD k Trans.z).2.1) then .inl () else .inr false):=by
 have hli:=hi' _ (qv Trans.z hi)
 have hlen:(ts.take i).length=i:=by rw [List.length_take]; omega
 have hget:∀ k,k < i→(ts.take i).getD k Trans.z=ts.getD k Trans.z:=fun k hk=>by
   rw [List.getD_eq_getElem?_getD,List.getD_eq_getElem?_getD,List.getElem?_take,if_pos hk]
 rw [hlen]
 refine q6q (fun k:Nat=>(k:Int)) i (q24 (by omega)) (fun k=>frB (ts.getD i Trans.z).2.1 (ts.getD k Trans.z).2.1) () false ?_ ?_ ?_
 · intro k hk hp
   have hlk:=hi' _ (qv Trans.z (show k < ts.length by omega))
   simp (disch:=omega) only [q4d,hlen,hget k hk,ckB_ix,qg,qc,qk,ckB_mk,ckB_ne,bif_lt,qf,bif_le,qh,bif_eq,qe,bif_ne,qj,qi,qb,qa,bnd_ok,lk_inl,lk_inr,Int.toNat_natCast,decide_true]
   rw [q1if _ _ (by omega) (by omega),q1fo _ _ (by omega),qp]
   unfold frB at hp
   cases h1:comB (ts.getD i Trans.z).2.1 (ts.getD k Trans.z).2.1 with
   | false => rfl
   | true => rw [h1] at hp; simp only [Bool.not_true,Bool.false_or] at hp; simp only [bnd_ok,hp]; rfl
 · intro k hk hp
   have hlk:=hi' _ (qv Trans.z (show k < ts.length by omega))
   simp (disch:=omega) only [q4d,hlen,hget k hk,ckB_ix,qg,qc,qk,ckB_mk,ckB_ne,bif_lt,qf,bif_le,qh,bif_eq,qe,bif_ne,qj,qi,qb,qa,bnd_ok,lk_inl,lk_inr,Int.toNat_natCast,decide_true]
   rw [q1if _ _ (by omega) (by omega),q1fo _ _ (by omega)]
   unfold frB at hp
   simp only [Bool.or_eq_false_iff,Bool.not_eq_false'] at hp
   simp only [bnd_ok,hp.1,hp.2]; rfl
 · simp (disch:=omega) only [q4d,ckB_ix,qg,qc,qk,ckB_mk,ckB_ne,bif_lt,qf,bif_le,qh,bif_eq,qe,bif_ne,qj,qi,qb,qa,bnd_ok,lk_inl,lk_inr,Int.toNat_natCast,decide_true]
theorem q1df {i:Nat} (hi:i < ts.length) (a b c:Int) :
   q1b3 (i:Int) a ts b c 0=some (bif (List.range i).all (fun k=>frB (ts.getD i Trans.z).2.1 (ts.getD k Trans.z).2.1) then .inl () else .inr false):=by
 have hli:=hi' _ (qv Trans.z hi)
 refine q6q (fun k:Nat=>(k:Int)) i (q24 (by omega)) (fun k=>frB (ts.getD i Trans.z).2.1 (ts.getD k Trans.z).2.1) () false ?_ ?_ ?_
 · intro k hk hp
   have hlk:=hi' _ (qv Trans.z (show k < ts.length by omega))
   simp (disch:=omega) only [qk4,ckB_ix,qg,qc,qk,ckB_mk,ckB_ne,bif_lt,qf,bif_le,qh,bif_eq,qe,bif_ne,qj,qi,qb,qa,bnd_ok,lk_inl,lk_inr,Int.toNat_natCast,decide_true]
   rw [q1dm _ _ (by omega) (by omega),qh6 _ _ (by omega),qp]
   unfold frB at hp
   cases h1:comB (ts.getD i Trans.z).2.1 (ts.getD k Trans.z).2.1 with
   | false => rfl
   | true => rw [h1] at hp; simp only [Bool.not_true,Bool.false_or] at hp; simp only [bnd_ok,hp]; rfl
 · intro k hk hp
   have hlk:=hi' _ (qv Trans.z (show k < ts.length by omega))
   simp (disch:=omega) only [qk4,ckB_ix,qg,qc,qk,ckB_mk,ckB_ne,bif_lt,qf,bif_le,qh,bif_eq,qe,bif_ne,qj,qi,qb,qa,bnd_ok,lk_inl,lk_inr,Int.toNat_natCast,decide_true]
   rw [q1dm _ _ (by omega) (by omega),qh6 _ _ (by omega)]
   unfold frB at hp
   simp only [Bool.or_eq_false_iff,Bool.not_eq_false'] at hp
   simp only [bnd_ok,hp.1,hp.2]; rfl
 · simp (disch:=omega) only [qk4,ckB_ix,qg,qc,qk,ckB_mk,ckB_ne,bif_lt,qf,bif_le,qh,bif_eq,qe,bif_ne,qj,qi,qb,qa,bnd_ok,lk_inl,lk_inr,Int.toNat_natCast,decide_true]
theorem q1la (a b c:Int):q34 (a,ts,b,c,())=some (freeN ts):=by
 have hL:qq3 ts (ts.length:Int) a ts b c 0=some (bif (List.range ts.length).all (fun i=>(List.range i).all fun k=>frB (ts.getD i Trans.z).2.1 (ts.getD k Trans.z).2.1) then .inl () else .inr false):=by
   refine q6q (fun k:Nat=>(k:Int)) ts.length (q24 (by omega)) (fun i=>(List.range i).all fun k=>frB (ts.getD i Trans.z).2.1 (ts.getD k Trans.z).2.1) () false ?_ ?_ ?_
   · intro i hi hp
     simp (disch:=omega) only [q4g,ckB_ix,qg,qc,qk,ckB_mk,ckB_ne,bif_lt,qf,bif_le,qh,bif_eq,qe,bif_ne,qj,qi,qb,qa,bnd_ok,lk_inl,lk_inr,Int.toNat_natCast,decide_true]
     rw [q1gz hl hi' hi,hp,qp]
     rfl
   · intro i hi hp
     simp (disch:=omega) only [q4g,ckB_ix,qg,qc,qk,ckB_mk,ckB_ne,bif_lt,qf,bif_le,qh,bif_eq,qe,bif_ne,qj,qi,qb,qa,bnd_ok,lk_inl,lk_inr,Int.toNat_natCast,decide_true]
     rw [q1gz hl hi' hi,hp]
     rfl
   · simp (disch:=omega) only [q4g,ckB_ix,qg,qc,qk,ckB_mk,ckB_ne,bif_lt,qf,bif_le,qh,bif_eq,qe,bif_ne,qj,qi,qb,qa,bnd_ok,lk_inl,lk_inr,Int.toNat_natCast,decide_true]
 unfold q34 freeN
 simp only
 rw [hL,bnd_ok,qqk]
theorem Is_eq (a b c:Int):quu (a,ts,b,c,())=some (freeN ts):=by
 have hL:q1aw a ts b c 0=some (bif (List.range ts.length).all (fun i=>(List.range i).all fun k=>frB (ts.getD i Trans.z).2.1 (ts.getD k Trans.z).2.1) then .inl () else .inr false):=by
   refine q6q (fun k:Nat=>(k:Int)) ts.length (q24 (by omega)) (fun i=>(List.range i).all fun k=>frB (ts.getD i Trans.z).2.1 (ts.getD k Trans.z).2.1) () false ?_ ?_ ?_
   · intro i hi hp
     simp (disch:=omega) only [qj6,ckB_ix,qg,qc,qk,ckB_mk,ckB_ne,bif_lt,qf,bif_le,qh,bif_eq,qe,bif_ne,qj,qi,qb,qa,bnd_ok,lk_inl,lk_inr,Int.toNat_natCast,decide_true]
     rw [q1df hl hi' hi,hp,qp]
     rfl
   · intro i hi hp
     simp (disch:=omega) only [qj6,ckB_ix,qg,qc,qk,ckB_mk,ckB_ne,bif_lt,qf,bif_le,qh,bif_eq,qe,bif_ne,qj,qi,qb,qa,bnd_ok,lk_inl,lk_inr,Int.toNat_natCast,decide_true]
     rw [q1df hl hi' hi,hp]
     rfl
   · simp (disch:=omega) only [qj6,ckB_ix,qg,qc,qk,ckB_mk,ckB_ne,bif_lt,qf,bif_le,qh,bif_eq,qe,bif_ne,qj,qi,qb,qa,bnd_ok,lk_inl,lk_inr,Int.toNat_natCast,decide_true]
 unfold quu freeN
 simp only
 rw [hL,bnd_ok,qqk]
end
end Go.Proofs.YtclbndfjhjladaaGreat
