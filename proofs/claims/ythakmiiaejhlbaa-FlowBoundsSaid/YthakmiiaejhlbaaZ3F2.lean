/-
  Flow: markings, firing, the reversed net.
-/
import Derived.Test.YthakmiiaejhlbaaZ3F1
set_option linter.all false
namespace Go.Proofs.Ythakmiiaejhlbaa
open Go.K Go.M
theorem filt_f {α:Type} {p:α→Bool} {x:α} (h:p x=false):[x].filter p=[]:=by rw [List.filter_cons,h]; rfl
theorem filt_t {α:Type} {p:α→Bool} {x:α} (h:p x=true):[x].filter p=[x]:=by rw [List.filter_cons,h]; rfl
def tokB (k:Int):Bool:=decide (k < 0)||decide (100 < k)
def markB (N:Int) (m:List Int):Bool:=decide ((m.length:Int)=N)&&!m.any tokB
theorem qyx {N:Int} {m:List Int}:markB N m=true↔(m.length:Int)=N∧∀ i,i < m.length→0≤m.getD i 0∧m.getD i 0≤100:=by
 unfold markB
 rw [Bool.and_eq_true,decide_eq_true_eq,Bool.not_eq_true',List.any_eq_false]
 constructor
 · rintro ⟨h1,h2⟩
   refine ⟨h1,fun i hi=>?_⟩
   have:=h2 _ (qr 0 hi)
   unfold tokB at this
   simp only [Bool.or_eq_true,decide_eq_true_eq,not_or] at this
   omega
 · rintro ⟨h1,h2⟩
   refine ⟨h1,fun x hx=>?_⟩
   obtain ⟨i,hi,rfl⟩:=qkb 0 hx
   have:=h2 i hi
   unfold tokB
   simp only [Bool.or_eq_true,decide_eq_true_eq,not_or]
   omega
theorem q10c (n:Net) (m:List Int) (hm:m.length≤1000000):qdn n m=some (markB n.1 m):=by
 have hL:qnb m 0=some (bif m.any tokB then .inr false else .inl ()):=by
   refine q8m m 0 tokB false (by omega) (fun i hi=>?_) ?_
   · unfold tokB
     simp (disch:=omega) only [qab,ckB_ix,q7,q6,qd,ckB_mk,ckB_ne,bif_lt,q9,bif_le,qb,bif_eq,q8,bif_ne,qa,qc,q5,q4,bnd_ok,lk_inl,lk_inr,Int.toNat_natCast,decide_true]
     rw [qf]
     cases decide (m.getD i 0 < 0)<;>cases decide (100 < m.getD i 0)<;>rfl
   · simp (disch:=omega) only [qab,ckB_ix,q7,q6,qd,ckB_mk,ckB_ne,bif_lt,q9,bif_le,qb,bif_eq,q8,bif_ne,qa,qc,q5,q4,bnd_ok,lk_inl,lk_inr,Int.toNat_natCast,decide_true]
 unfold qdn markB
 rw [hL]
 cases decide ((m.length:Int)=n.1)<;>cases m.any tokB<;>rfl
theorem qwo {n:Net} (h:Small n) (m:List Int) (hm:m.length≤1000000):qdq n m=some (validN n&&markB n.1 m):=by
 have hL:q99 m (m.length:Int) 0=some (fOut (fun i=>(i:Int)) (fidx tokB m)):=by
   refine qhv m 0 tokB (fun i=>(i:Int)) (by omega) (fun i hi=>?_) ?_
   · unfold tokB
     simp (disch:=omega) only [q30,qf8,ckB_ix,q7,q6,qd,ckB_mk,ckB_ne,bif_lt,q9,bif_le,qb,bif_eq,q8,bif_ne,qa,qc,q5,q4,bnd_ok,lk_inl,lk_inr,Int.toNat_natCast,decide_true]
     rw [qf]
     cases decide (m.getD i 0 < 0)<;>cases decide (100 < m.getD i 0)<;>rfl
   · simp (disch:=omega) only [q30,ckB_ix,q7,q6,qd,ckB_mk,ckB_ne,bif_lt,q9,bif_le,qb,bif_eq,q8,bif_ne,qa,qc,q5,q4,bnd_ok,lk_inl,lk_inr,Int.toNat_natCast,decide_true]
 have hC:q2z m=some (m.any tokB):=by
   unfold q2z q6j
   rw [hL,bnd_ok,qom,bnd_ok,qp5]
 unfold qdq markB
 rw [q127 h,hC]
 cases validN n<;>cases decide ((m.length:Int)=n.1)<;>cases m.any tokB<;>rfl
theorem q152 {n:Net} (hv:validN n=true) {t:Trans} (ht:t∈n.2.1):setB n.1 t.2.1=true∧setB n.1 t.2.2.1=true:=by
 unfold validN at hv
 simp only [Bool.and_eq_true,Bool.not_eq_true'] at hv
 have:=List.any_eq_false.1 hv.1.1.2 t ht
 unfold badT at this
 simp only [Bool.or_eq_true,Bool.not_eq_true',not_or,Bool.not_eq_false] at this
 exact ⟨this.1.2,this.2⟩
def canB (t:Trans) (m:List Int):Bool:=!t.2.1.any fun p=>decide (m.getD p.toNat 0=0)
theorem q14e (t:Trans) (m:List Int) (ht:t.2.1.length≤1000000) (hb:∀ p∈t.2.1,0≤p∧p < m.length):qdp t m=some (canB t m):=by
 have hL:q9b t.2.1 m (t.2.1.length:Int) 0=some (fOut (fun i=>(i:Int)) (fidx (fun p=>decide (m.getD p.toNat 0=0)) t.2.1)):=by
   refine qhv t.2.1 0 (fun p=>decide (m.getD p.toNat 0=0)) (fun i=>(i:Int)) (by omega) (fun i hi=>?_) ?_
   · have:=hb _ (qr 0 hi)
     simp (disch:=omega) only [q2y,qfw,ckB_ix,q7,q6,qd,ckB_mk,ckB_ne,bif_lt,q9,bif_le,qb,bif_eq,q8,bif_ne,qa,qc,q5,q4,bnd_ok,lk_inl,lk_inr,Int.toNat_natCast,decide_true]
     rw [qf]
     cases decide (m.getD (t.2.1.getD i 0).toNat 0=0)<;>rfl
   · simp (disch:=omega) only [q2y,ckB_ix,q7,q6,qd,ckB_mk,ckB_ne,bif_lt,q9,bif_le,qb,bif_eq,q8,bif_ne,qa,qc,q5,q4,bnd_ok,lk_inl,lk_inr,Int.toNat_natCast,decide_true]
 unfold qdp q4x q6i canB
 rw [hL,bnd_ok,qom,bnd_ok,bnd_ok,qp5]
structure Fired (n:Net) (m:List Int) (t:Trans) (x:List Int):Prop where
 mem:t∈n.2.1
 can:∀ p∈t.2.1,1≤m.getD p.toNat 0
 len:x.length=m.length
 at_:∀ q:Nat,x.getD q 0=m.getD q 0+(if (q:Int)∈t.2.1 then -1 else 0)+(if (q:Int)∈t.2.2.1 then 1 else 0)
 mark:markB n.1 x=true
def enN (n:Net) (m:List Int) (i:Nat):List Nat:=(List.range i).filter fun j=>canB (n.2.1.getD j Trans.z) m
def enL (n:Net) (m:List Int):List Int:=(enN n m n.2.1.length).map fun (j:Nat)=>(j:Int)
theorem q14y {n:Net} (h:Small n) (m:List Int) (hm:m.length≤1000000):qdl n m=some (bif validN n&&markB n.1 m then (0,enL n m) else (1,[])):=by
 unfold qdl
 rw [qwo h m hm]
 cases hv:validN n with
 | false => rfl
 | true =>
   cases hk:markB n.1 m with
   | false => rfl
   | true =>
     have hlen:=h.trans
     have hL:qm5 m n.2.1 (n.2.1.length:Int) (0,[])=some (.inl (enL n m)):=by
       unfold enL
       refine q1c (fun i:Nat=>((i:Int),(enN n m i).map fun (j:Nat)=>(j:Int))) n.2.1.length (q11 (by omega)) _ (fun i hi=>?_) ?_ _ rfl
       · have ht:=qr Trans.z hi
         have hb:=(q17a.1 (q152 hv ht).1).1
         have hml:=(qyx.1 hk).1
         have e1:=q14e (n.2.1.getD i Trans.z) m (Nat.le_trans (h.ins _ ht) (by omega)) (fun p hp=>by have:=hb p hp; omega)
         have e2:enN n m (i+1)=bif canB (n.2.1.getD i Trans.z) m then enN n m i++[i] else enN n m i:=by
           unfold enN
           rw [List.range_succ,List.filter_append]
           cases hc:canB (n.2.1.getD i Trans.z) m with
           | true => rw [filt_t (p:=fun j=>canB (n.2.1.getD j Trans.z) m) hc]; rfl
           | false => rw [filt_f (p:=fun j=>canB (n.2.1.getD j Trans.z) m) hc,List.append_nil]; rfl
         have hle:((enN n m i).map fun (j:Nat)=>(j:Int)).length≤i:=by
           rw [List.length_map]
           have:=List.length_filter_le (fun j=>canB (n.2.1.getD j Trans.z) m) (List.range i)
           rw [List.length_range] at this
           exact this
         rw [e2]
         cases hc:canB (n.2.1.getD i Trans.z) m with
         | true =>
           rw [hc] at e1
           simp only [q7x,Int.toNat_natCast,e1,bnd_ok]
           simp (disch:=omega) only [ckB_ix,q7,q6,qd,ckB_mk,ckB_ne,bif_lt,q9,bif_le,qb,bif_eq,q8,bif_ne,qa,qc,q5,q4,bnd_ok,lk_inl,lk_inr,Int.toNat_natCast,decide_true]
           rw [qf,List.map_append]
           rfl
         | false =>
           rw [hc] at e1
           simp only [q7x,Int.toNat_natCast,e1,bnd_ok]
           simp (disch:=omega) only [ckB_ix,q7,q6,qd,ckB_mk,ckB_ne,bif_lt,q9,bif_le,qb,bif_eq,q8,bif_ne,qa,qc,q5,q4,bnd_ok,lk_inl,lk_inr,Int.toNat_natCast,decide_true]
           rw [qf]
       · simp (disch:=omega) only [q7x,ckB_ix,q7,q6,qd,ckB_mk,ckB_ne,bif_lt,q9,bif_le,qb,bif_eq,q8,bif_ne,qa,qc,q5,q4,bnd_ok,lk_inl,lk_inr,Int.toNat_natCast,decide_true]
     simp only [Bool.and_self,bnd_ok,Bool.not_true,cond_false,hL,lk_inl,cond_true]
end Go.Proofs.Ythakmiiaejhlbaa
