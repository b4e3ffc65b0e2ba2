/-
  Flow: markings, firing, the reversed net.
-/
import Derived.Test.YthakmiiaejhlbaaZ6F1
set_option linter.all false
namespace Go.Proofs.Ythakmiiaejhlbaa
open Go.K Go.M
theorem filt_f {α:Type} {p:α→Bool} {x:α} (h:p x=false):[x].filter p=[]:=by rw [List.filter_cons,h]; rfl
theorem filt_t {α:Type} {p:α→Bool} {x:α} (h:p x=true):[x].filter p=[x]:=by rw [List.filter_cons,h]; rfl
theorem q135 (l:List Int) (hl:l.length≤1000000):q42 l l=some true:=by
 have hL:qcv l l (l.length:Int) 0=some (.inl ()):=by
   refine q99 (fun i:Nat=>(i:Int)) l.length (q2i (by omega)) _ (fun i hi=>?_) ?_ _ rfl
   · simp only [q4g,Int.toNat_natCast]
     simp (disch:=omega) only [ckB_ix,qc,q7,qb,ckB_mk,ckB_ne,bif_lt,qe,bif_le,qa,bif_eq,qf,bif_ne,q9,qd,q5,q0,bnd_ok,lk_inl,lk_inr,Int.toNat_natCast,decide_true]
     simp
   · simp (disch:=omega) only [q4g,ckB_ix,qc,q7,qb,ckB_mk,ckB_ne,bif_lt,qe,bif_le,qa,bif_eq,qf,bif_ne,q9,qd,q5,q0,bnd_ok,lk_inl,lk_inr,Int.toNat_natCast,decide_true]
 unfold q42
 rw [hL]
 simp
def tokB (k:Int):Bool:=decide (k < 0)||decide (100 < k)
def markB (N:Int) (m:List Int):Bool:=decide ((m.length:Int)=N)&&!m.any tokB
theorem qhp {N:Int} {m:List Int}:markB N m=true↔(m.length:Int)=N∧∀ i,i < m.length→0≤m.getD i 0∧m.getD i 0≤100:=by
 unfold markB
 rw [Bool.and_eq_true,decide_eq_true_eq,Bool.not_eq_true',List.any_eq_false]
 constructor
 · rintro ⟨h1,h2⟩
   refine ⟨h1,fun i hi=>?_⟩
   have:=h2 _ (q10 0 hi)
   unfold tokB at this
   simp only [Bool.or_eq_true,decide_eq_true_eq,not_or] at this
   omega
 · rintro ⟨h1,h2⟩
   refine ⟨h1,fun x hx=>?_⟩
   obtain ⟨i,hi,rfl⟩:=q10h 0 hx
   have:=h2 i hi
   unfold tokB
   simp only [Bool.or_eq_true,decide_eq_true_eq,not_or]
   omega
theorem qig (n:Net) (m:List Int) (hm:m.length≤1000000):q7o n m=some (markB n.1 m):=by
 have hL:qlu m 0=some (bif m.any tokB then .inr false else .inl ()):=by
   refine qbh m 0 tokB false (by omega) (fun i hi=>?_) ?_
   · unfold tokB
     simp (disch:=omega) only [q9t,ckB_ix,qc,q7,qb,ckB_mk,ckB_ne,bif_lt,qe,bif_le,qa,bif_eq,qf,bif_ne,q9,qd,q5,q0,bnd_ok,lk_inl,lk_inr,Int.toNat_natCast,decide_true]
     rw [qn]
     cases decide (m.getD i 0 < 0)<;>cases decide (100 < m.getD i 0)<;>rfl
   · simp (disch:=omega) only [q9t,ckB_ix,qc,q7,qb,ckB_mk,ckB_ne,bif_lt,qe,bif_le,qa,bif_eq,qf,bif_ne,q9,qd,q5,q0,bnd_ok,lk_inl,lk_inr,Int.toNat_natCast,decide_true]
 unfold q7o markB
 rw [hL]
 cases decide ((m.length:Int)=n.1)<;>cases m.any tokB<;>rfl
theorem qvq {n:Net} (h:Small n) (m:List Int) (hm:m.length≤1000000):qd7 n m=some (validN n&&markB n.1 m):=by
 have hL:q8m m (m.length:Int) 0=some (fOut (fun i=>(i:Int)) (fidx tokB m)):=by
   refine qe6 m 0 tokB (fun i=>(i:Int)) (by omega) (fun i hi=>?_) ?_
   · unfold tokB
     simp (disch:=omega) only [q1o,qfy,ckB_ix,qc,q7,qb,ckB_mk,ckB_ne,bif_lt,qe,bif_le,qa,bif_eq,qf,bif_ne,q9,qd,q5,q0,bnd_ok,lk_inl,lk_inr,Int.toNat_natCast,decide_true]
     rw [qn]
     cases decide (m.getD i 0 < 0)<;>cases decide (100 < m.getD i 0)<;>rfl
   · simp (disch:=omega) only [q1o,ckB_ix,qc,q7,qb,ckB_mk,ckB_ne,bif_lt,qe,bif_le,qa,bif_eq,qf,bif_ne,q9,qd,q5,q0,bnd_ok,lk_inl,lk_inr,Int.toNat_natCast,decide_true]
 have hC:q1q m=some (m.any tokB):=by
   unfold q1q q5m
   rw [hL,bnd_ok,qjw,bnd_ok,qjr]
 unfold qd7 markB
 rw [qui h,hC]
 cases validN n<;>cases decide ((m.length:Int)=n.1)<;>cases m.any tokB<;>rfl
theorem q12n {n:Net} (hv:validN n=true) {t:Trans} (ht:t∈n.2.1):setB n.1 t.2.1=true∧setB n.1 t.2.2.1=true:=by
 unfold validN at hv
 simp only [Bool.and_eq_true,Bool.not_eq_true'] at hv
 have:=List.any_eq_false.1 hv.1.1.2 t ht
 unfold badT at this
 simp only [Bool.or_eq_true,Bool.not_eq_true',not_or,Bool.not_eq_false] at this
 exact ⟨this.1.2,this.2⟩
def canB (t:Trans) (m:List Int):Bool:=!t.2.1.any fun p=>decide (m.getD p.toNat 0=0)
theorem q12d (t:Trans) (m:List Int) (ht:t.2.1.length≤1000000) (hb:∀ p∈t.2.1,0≤p∧p < m.length):qd0 t m=some (canB t m):=by
 have hL:q8l t.2.1 m (t.2.1.length:Int) 0=some (fOut (fun i=>(i:Int)) (fidx (fun p=>decide (m.getD p.toNat 0=0)) t.2.1)):=by
   refine qe6 t.2.1 0 (fun p=>decide (m.getD p.toNat 0=0)) (fun i=>(i:Int)) (by omega) (fun i hi=>?_) ?_
   · have:=hb _ (q10 0 hi)
     simp (disch:=omega) only [q1p,qfe,ckB_ix,qc,q7,qb,ckB_mk,ckB_ne,bif_lt,qe,bif_le,qa,bif_eq,qf,bif_ne,q9,qd,q5,q0,bnd_ok,lk_inl,lk_inr,Int.toNat_natCast,decide_true]
     rw [qn]
     cases decide (m.getD (t.2.1.getD i 0).toNat 0=0)<;>rfl
   · simp (disch:=omega) only [q1p,ckB_ix,qc,q7,qb,ckB_mk,ckB_ne,bif_lt,qe,bif_le,qa,bif_eq,qf,bif_ne,q9,qd,q5,q0,bnd_ok,lk_inl,lk_inr,Int.toNat_natCast,decide_true]
 unfold qd0 q3r q5i canB
 rw [hL,bnd_ok,qjw,bnd_ok,bnd_ok,qjr]
structure Fired (n:Net) (m:List Int) (t:Trans) (x:List Int):Prop where
 mem:t∈n.2.1
 can:∀ p∈t.2.1,1≤m.getD p.toNat 0
 len:x.length=m.length
 at_:∀ q:Nat,x.getD q 0=m.getD q 0+(if (q:Int)∈t.2.1 then -1 else 0)+(if (q:Int)∈t.2.2.1 then 1 else 0)
 mark:markB n.1 x=true
def enN (n:Net) (m:List Int) (i:Nat):List Nat:=(List.range i).filter fun j=>canB (n.2.1.getD j Trans.z) m
def enL (n:Net) (m:List Int):List Int:=(enN n m n.2.1.length).map fun (j:Nat)=>(j:Int)
theorem q12y {n:Net} (h:Small n) (m:List Int) (hm:m.length≤1000000):qd2 n m=some (bif validN n&&markB n.1 m then (0,enL n m) else (1,[])):=by
 unfold qd2
 rw [qvq h m hm]
 cases hv:validN n with
 | false => rfl
 | true =>
   cases hk:markB n.1 m with
   | false => rfl
   | true =>
     have hlen:=h.trans
     have hL:qmu m n.2.1 (n.2.1.length:Int) (0,[])=some (.inl (enL n m)):=by
       unfold enL
       refine q99 (fun i:Nat=>((i:Int),(enN n m i).map fun (j:Nat)=>(j:Int))) n.2.1.length (q2i (by omega)) _ (fun i hi=>?_) ?_ _ rfl
       · have ht:=q10 Trans.z hi
         have hb:=(q14y.1 (q12n hv ht).1).1
         have hml:=(qhp.1 hk).1
         have e1:=q12d (n.2.1.getD i Trans.z) m (Nat.le_trans (h.ins _ ht) (by omega)) (fun p hp=>by have:=hb p hp; omega)
         have e2:enN n m (i+1)=bif canB (n.2.1.getD i Trans.z) m then enN n m i++[i] else enN n m i:=by
           unfold enN
           rw [List.range_succ,List.filter_append]
           cases hc:canB (n.2.1.getD i Trans.z) m with
           | true => rw [filt_t (p:=fun j=>canB (n.2.1.getD j Trans.z) m) hc]; rfl
           | false => rw [filt_f (p:=fun j=>canB (n.2.1.getD j Trans.z) m) hc,List.append_nil]; rfl
         have hle:((enN n m i).map fun (j:Nat)=>(j:Int)).length≤i:=by
           rw [List.length_map]
           have:=List.length_filter_le (fun j=>canB (n.2.1.getD j Trans.z) m) (List.range i)
           rw [List.length_range] at this
           exact this
         rw [e2]
         cases hc:canB (n.2.1.getD i Trans.z) m with
         | true =>
           rw [hc] at e1
           simp only [q6n,Int.toNat_natCast,e1,bnd_ok]
           simp (disch:=omega) only [ckB_ix,qc,q7,qb,ckB_mk,ckB_ne,bif_lt,qe,bif_le,qa,bif_eq,qf,bif_ne,q9,qd,q5,q0,bnd_ok,lk_inl,lk_inr,Int.toNat_natCast,decide_true]
           rw [qn,List.map_append]
           rfl
         | false =>
           rw [hc] at e1
           simp only [q6n,Int.toNat_natCast,e1,bnd_ok]
           simp (disch:=omega) only [ckB_ix,qc,q7,qb,ckB_mk,ckB_ne,bif_lt,qe,bif_le,qa,bif_eq,qf,bif_ne,q9,qd,q5,q0,bnd_ok,lk_inl,lk_inr,Int.toNat_natCast,decide_true]
           rw [qn]
       · simp (disch:=omega) only [q6n,ckB_ix,qc,q7,qb,ckB_mk,ckB_ne,bif_lt,qe,bif_le,qa,bif_eq,qf,bif_ne,q9,qd,q5,q0,bnd_ok,lk_inl,lk_inr,Int.toNat_natCast,decide_true]
     simp only [Bool.and_self,bnd_ok,Bool.not_true,cond_false,hL,lk_inl,cond_true]
end Go.Proofs.Ythakmiiaejhlbaa
