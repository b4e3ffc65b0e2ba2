/-
  Siphon: Commoner; the law SiphonCommoner.
-/
import Derived.Test.YtjhojmninmipcaaZ4W4
set_option linter.all false
namespace Go.Proofs.Ytjhojmninmipcaa
open Go.K Go.M
theorem qul (l m:List Int) (hl:l.length≤1000000) (hb:∀ p∈l,0≤p∧p < m.length):q5y l m=some (mkdB m l):=by
 have hL:q8l l m (l.length:Int) 0=some (fOut (fun i=>(i:Int)) (fidx (fun p=>decide (0 < m.getD p.toNat 0)) l)):=by
   refine qe4 l 0 (fun p=>decide (0 < m.getD p.toNat 0)) (fun i=>(i:Int)) (by omega) (fun i hi=>?_) ?_
   · have:=hb _ (qt 0 hi)
     simp (disch:=omega) only [q1s,qfb,ckB_ix,qa,q6,qb,ckB_mk,ckB_ne,bif_lt,qf,bif_le,qc,bif_eq,qe,bif_ne,q9,qd,q4,q0,bnd_ok,lk_inl,lk_inr,Int.toNat_natCast,decide_true]
     rw [qm]
     cases decide (0 < m.getD (l.getD i 0).toNat 0)<;>rfl
   · simp (disch:=omega) only [q1s,ckB_ix,qa,q6,qb,ckB_mk,ckB_ne,bif_lt,qf,bif_le,qc,bif_eq,qe,bif_ne,q9,qd,q4,q0,bnd_ok,lk_inl,lk_inr,Int.toNat_natCast,decide_true]
 unfold q5y q47 q5i mkdB
 rw [hL,bnd_ok,qn7,bnd_ok,bnd_ok,qmm]
def enN (n:Net) (m:List Int) (i:Nat):List Nat:=(List.range i).filter fun j=>canB (n.2.1.getD j Trans.z) m
def enL (n:Net) (m:List Int):List Int:=(enN n m n.2.1.length).map fun (j:Nat)=>(j:Int)
theorem qzk {n:Net} (h:Small n) (m:List Int) (hm:m.length≤1000000):qcz n m=some (bif validN n&&markB n.1 m then (0,enL n m) else (1,[])):=by
 unfold qcz
 rw [ql6 h m hm]
 cases hv:validN n with
 | false => rfl
 | true =>
   cases hk:markB n.1 m with
   | false => rfl
   | true =>
     have hlen:=h.trans
     have hL:qks m n.2.1 (n.2.1.length:Int) (0,[])=some (.inl (enL n m)):=by
       unfold enL
       refine qg5 (fun i:Nat=>((i:Int),(enN n m i).map fun (j:Nat)=>(j:Int))) n.2.1.length (q5u (by omega)) _ (fun i hi=>?_) ?_ _ rfl
       · have ht:=qt Trans.z hi
         have hb:=(qk4.1 (qsu hv ht).1).1
         have hml:=(q9p.1 hk).1
         have e1:=qt0 (n.2.1.getD i Trans.z) m (Nat.le_trans (h.ins _ ht) (by omega)) (fun p hp=>by have:=hb p hp; omega)
         have e2:enN n m (i+1)=bif canB (n.2.1.getD i Trans.z) m then enN n m i++[i] else enN n m i:=by
           unfold enN
           rw [List.range_succ,List.filter_append]
           cases hc:canB (n.2.1.getD i Trans.z) m with
           | true => rw [filt_t (p:=fun j=>canB (n.2.1.getD j Trans.z) m) hc]; rfl
           | false => rw [filt_f (p:=fun j=>canB (n.2.1.getD j Trans.z) m) hc,List.append_nil]; rfl
         have hle:((enN n m i).map fun (j:Nat)=>(j:Int)).length≤i:=by
           rw [List.length_map]
           have:=List.length_filter_le (fun j=>canB (n.2.1.getD j Trans.z) m) (List.range i)
           rw [List.length_range] at this
           exact this
         rw [e2]
         cases hc:canB (n.2.1.getD i Trans.z) m with
         | true =>
           rw [hc] at e1
           simp only [q6u,Int.toNat_natCast,e1,bnd_ok]
           simp (disch:=omega) only [ckB_ix,qa,q6,qb,ckB_mk,ckB_ne,bif_lt,qf,bif_le,qc,bif_eq,qe,bif_ne,q9,qd,q4,q0,bnd_ok,lk_inl,lk_inr,Int.toNat_natCast,decide_true]
           rw [qm,List.map_append]
           rfl
         | false =>
           rw [hc] at e1
           simp only [q6u,Int.toNat_natCast,e1,bnd_ok]
           simp (disch:=omega) only [ckB_ix,qa,q6,qb,ckB_mk,ckB_ne,bif_lt,qf,bif_le,qc,bif_eq,qe,bif_ne,q9,qd,q4,q0,bnd_ok,lk_inl,lk_inr,Int.toNat_natCast,decide_true]
           rw [qm]
       · simp (disch:=omega) only [q6u,ckB_ix,qa,q6,qb,ckB_mk,ckB_ne,bif_lt,qf,bif_le,qc,bif_eq,qe,bif_ne,q9,qd,q4,q0,bnd_ok,lk_inl,lk_inr,Int.toNat_natCast,decide_true]
     simp only [Bool.and_self,bnd_ok,Bool.not_true,cond_false,hL,lk_inl,cond_true]
theorem quv {n:Net} (h:Small n) (m:List Int) (hm:m.length≤1000000):qbb n m=some (validN n&&markB n.1 m):=by
 unfold qbb
 rw [qzk h m hm]
 cases validN n&&markB n.1 m<;>rfl
end Go.Proofs.Ytjhojmninmipcaa
