/-
  Siphon: firing and runs; the law SiphonStays.
-/
import Derived.Test.YtjhojmninmipcaaZ4U3
set_option linter.all false
namespace Go.Proofs.Ytjhojmninmipcaa
open Go.K Go.M
def tokB (k:Int):Bool:=decide (k < 0)||decide (100 < k)
def markB (N:Int) (m:List Int):Bool:=decide ((m.length:Int)=N)&&!m.any tokB
theorem q9p {N:Int} {m:List Int}:markB N m=true↔(m.length:Int)=N∧∀ i,i < m.length→0≤m.getD i 0∧m.getD i 0≤100:=by
 unfold markB
 rw [Bool.and_eq_true,decide_eq_true_eq,Bool.not_eq_true',List.any_eq_false]
 constructor
 · rintro ⟨h1,h2⟩
   refine ⟨h1,fun i hi=>?_⟩
   have:=h2 _ (qt 0 hi)
   unfold tokB at this
   simp only [Bool.or_eq_true,decide_eq_true_eq,not_or] at this
   omega
 · rintro ⟨h1,h2⟩
   refine ⟨h1,fun x hx=>?_⟩
   obtain ⟨i,hi,rfl⟩:=qjh 0 hx
   have:=h2 i hi
   unfold tokB
   simp only [Bool.or_eq_true,decide_eq_true_eq,not_or]
   omega
theorem qhq (n:Net) (m:List Int) (hm:m.length≤1000000):q5x n m=some (markB n.1 m):=by
 have hL:qlb m 0=some (bif m.any tokB then .inr false else .inl ()):=by
   refine qf3 m 0 tokB false (by omega) (fun i hi=>?_) ?_
   · unfold tokB
     simp (disch:=omega) only [q9s,ckB_ix,qa,q6,qb,ckB_mk,ckB_ne,bif_lt,qf,bif_le,qc,bif_eq,qe,bif_ne,q9,qd,q4,q0,bnd_ok,lk_inl,lk_inr,Int.toNat_natCast,decide_true]
     rw [qm]
     cases decide (m.getD i 0 < 0)<;>cases decide (100 < m.getD i 0)<;>rfl
   · simp (disch:=omega) only [q9s,ckB_ix,qa,q6,qb,ckB_mk,ckB_ne,bif_lt,qf,bif_le,qc,bif_eq,qe,bif_ne,q9,qd,q4,q0,bnd_ok,lk_inl,lk_inr,Int.toNat_natCast,decide_true]
 unfold q5x markB
 rw [hL]
 cases decide ((m.length:Int)=n.1)<;>cases m.any tokB<;>rfl
theorem ql6 {n:Net} (h:Small n) (m:List Int) (hm:m.length≤1000000):q7t n m=some (validN n&&markB n.1 m):=by
 have hL:q8m m (m.length:Int) 0=some (fOut (fun i=>(i:Int)) (fidx tokB m)):=by
   refine qe4 m 0 tokB (fun i=>(i:Int)) (by omega) (fun i hi=>?_) ?_
   · unfold tokB
     simp (disch:=omega) only [q1w,qev,ckB_ix,qa,q6,qb,ckB_mk,ckB_ne,bif_lt,qf,bif_le,qc,bif_eq,qe,bif_ne,q9,qd,q4,q0,bnd_ok,lk_inl,lk_inr,Int.toNat_natCast,decide_true]
     rw [qm]
     cases decide (m.getD i 0 < 0)<;>cases decide (100 < m.getD i 0)<;>rfl
   · simp (disch:=omega) only [q1w,ckB_ix,qa,q6,qb,ckB_mk,ckB_ne,bif_lt,qf,bif_le,qc,bif_eq,qe,bif_ne,q9,qd,q4,q0,bnd_ok,lk_inl,lk_inr,Int.toNat_natCast,decide_true]
 have hC:q1v m=some (m.any tokB):=by
   unfold q1v q5h
   rw [hL,bnd_ok,qn7,bnd_ok,qmm]
 unfold q7t markB
 rw [q11d h,hC]
 cases validN n<;>cases decide ((m.length:Int)=n.1)<;>cases m.any tokB<;>rfl
theorem qsu {n:Net} (hv:validN n=true) {t:Trans} (ht:t∈n.2.1):setB n.1 t.2.1=true∧setB n.1 t.2.2.1=true:=by
 unfold validN at hv
 simp only [Bool.and_eq_true,Bool.not_eq_true'] at hv
 have:=List.any_eq_false.1 hv.1.1.2 t ht
 unfold badT at this
 simp only [Bool.or_eq_true,Bool.not_eq_true',not_or,Bool.not_eq_false] at this
 exact ⟨this.1.2,this.2⟩
def addL (c:Int) (l:List Int) (m:List Int):List Int:=l.foldl (fun m p=>m.set p.toNat (m.getD p.toNat 0+c)) m
theorem qax (c:Int):∀ (l:List Int) (m:List Int),(addL c l m).length=m.length
 | [], _ => rfl
 | p :: l, m => (qax c l _).trans (List.length_set ..)
theorem qgh (c:Int):∀ (l:List Int) (m:List Int),l.Pairwise (· < ·)→(∀ p∈l,0≤p∧p < m.length)→∀ q:Nat,(addL c l m).getD q 0=m.getD q 0+(if (q:Int)∈l then c else 0)
 | [], m, _, _, q => by simp [addL]
 | p :: l, m, hs, hb, q => by
   obtain ⟨h1,h2⟩:=List.pairwise_cons.1 hs
   have hp:=hb p List.mem_cons_self
   have ih:=qgh c l (m.set p.toNat (m.getD p.toNat 0+c)) h2 (fun x hx=>by rw [List.length_set]; exact hb x (List.mem_cons_of_mem _ hx)) q
   show (addL c l (m.set p.toNat (m.getD p.toNat 0+c))).getD q 0=_
   rw [ih]
   by_cases hq:(q:Int)=p
   · have e:p.toNat=q:=by omega
     have hno:(q:Int)∉l:=fun hc=>by have:=h1 _ hc; omega
     rw [if_neg hno,if_pos (by rw [hq]; exact List.mem_cons_self),e,List.getD_eq_getElem?_getD,List.getElem?_set_self (by omega)]
     simp
   · have e:p.toNat≠q:=by omega
     have hiff:(q:Int)∈p::l↔(q:Int)∈l:=⟨fun hc=>(List.mem_cons.1 hc).resolve_left hq,List.mem_cons_of_mem _⟩
     rw [List.getD_eq_getElem?_getD,List.getElem?_set_ne e,← List.getD_eq_getElem?_getD]
     by_cases hl:(q:Int)∈l
     · rw [if_pos hl,if_pos (hiff.2 hl)]
     · rw [if_neg hl,if_neg fun h=>hl (hiff.1 h)]
def canB (t:Trans) (m:List Int):Bool:=!t.2.1.any fun p=>decide (m.getD p.toNat 0=0)
theorem qt0 (t:Trans) (m:List Int) (ht:t.2.1.length≤1000000) (hb:∀ p∈t.2.1,0≤p∧p < m.length):q9z t m=some (canB t m):=by
 have hL:q8k t.2.1 m (t.2.1.length:Int) 0=some (fOut (fun i=>(i:Int)) (fidx (fun p=>decide (m.getD p.toNat 0=0)) t.2.1)):=by
   refine qe4 t.2.1 0 (fun p=>decide (m.getD p.toNat 0=0)) (fun i=>(i:Int)) (by omega) (fun i hi=>?_) ?_
   · have:=hb _ (qt 0 hi)
     simp (disch:=omega) only [q1u,qeo,ckB_ix,qa,q6,qb,ckB_mk,ckB_ne,bif_lt,qf,bif_le,qc,bif_eq,qe,bif_ne,q9,qd,q4,q0,bnd_ok,lk_inl,lk_inr,Int.toNat_natCast,decide_true]
     rw [qm]
     cases decide (m.getD (t.2.1.getD i 0).toNat 0=0)<;>rfl
   · simp (disch:=omega) only [q1u,ckB_ix,qa,q6,qb,ckB_mk,ckB_ne,bif_lt,qf,bif_le,qc,bif_eq,qe,bif_ne,q9,qd,q4,q0,bnd_ok,lk_inl,lk_inr,Int.toNat_natCast,decide_true]
 unfold q9z q48 q5f canB
 rw [hL,bnd_ok,qn7,bnd_ok,bnd_ok,qmm]
theorem qzu (s:ByteArray) (l o:List Int) (m:List Int) (hl:l.length≤1000000) (hs:l.Pairwise (· < ·)) (hb:∀ p∈l,0≤p∧p < m.length) (hm:∀ i,i < m.length → -1000≤m.getD i 0∧m.getD i 0≤1000) :
   qpb l (l.length:Int) s l o (0,m)=some (.inl (addL (-1) l m)):=by
 have e:addL (-1) l m=addL (-1) (l.take l.length) m:=by rw [List.take_length]
 rw [e]
 refine qg5 (fun i:Nat=>((i:Int),addL (-1) (l.take i) m)) l.length (q5u (by omega)) _ (fun i hi=>?_) ?_ _ rfl
 · have hp:=hb _ (qt 0 hi)
   have hlen:=qax (-1) (l.take i) m
   have hat:=qgh (-1) (l.take i) m (hs.sublist (List.take_sublist _ _)) (fun p hp=>hb p (List.mem_of_mem_take hp)) (l.getD i 0).toNat
   have hmv:=hm (l.getD i 0).toNat (by omega)
   have hbd : -2000≤(addL (-1) (l.take i) m).getD (l.getD i 0).toNat 0∧(addL (-1) (l.take i) m).getD (l.getD i 0).toNat 0≤2000:=by
     rw [hat]
     split<;>omega
   have e3:addL (-1) (l.take (i+1)) m=(addL (-1) (l.take i) m).set (l.getD i 0).toNat ((addL (-1) (l.take i) m).getD (l.getD i 0).toNat 0 - 1):=by
     rw [qbf l i 0 hi]
     unfold addL
     rw [List.foldl_append]
     rfl
   rw [e3]
   simp (disch:=omega) only [qcx,ckB_ix,qa,q6,qb,ckB_mk,ckB_ne,bif_lt,qf,bif_le,qc,bif_eq,qe,bif_ne,q9,qd,q4,q0,bnd_ok,lk_inl,lk_inr,Int.toNat_natCast,decide_true]
   rw [qm]
 · simp (disch:=omega) only [qcx,ckB_ix,qa,q6,qb,ckB_mk,ckB_ne,bif_lt,qf,bif_le,qc,bif_eq,qe,bif_ne,q9,qd,q4,q0,bnd_ok,lk_inl,lk_inr,Int.toNat_natCast,decide_true]
theorem q102 (l:List Int) (m:List Int) (hl:l.length≤1000000) (hs:l.Pairwise (· < ·)) (hb:∀ p∈l,0≤p∧p < m.length) (hm:∀ i,i < m.length → -1000≤m.getD i 0∧m.getD i 0≤1000) :
   qq3 l (l.length:Int) (0,m)=some (.inl (addL 1 l m)):=by
 have e:addL 1 l m=addL 1 (l.take l.length) m:=by rw [List.take_length]
 rw [e]
 refine qg5 (fun i:Nat=>((i:Int),addL 1 (l.take i) m)) l.length (q5u (by omega)) _ (fun i hi=>?_) ?_ _ rfl
 · have hp:=hb _ (qt 0 hi)
   have hlen:=qax 1 (l.take i) m
   have hat:=qgh 1 (l.take i) m (hs.sublist (List.take_sublist _ _)) (fun p hp=>hb p (List.mem_of_mem_take hp)) (l.getD i 0).toNat
   have hmv:=hm (l.getD i 0).toNat (by omega)
   have hbd : -2000≤(addL 1 (l.take i) m).getD (l.getD i 0).toNat 0∧(addL 1 (l.take i) m).getD (l.getD i 0).toNat 0≤2000:=by
     rw [hat]
     split<;>omega
   have e3:addL 1 (l.take (i+1)) m=(addL 1 (l.take i) m).set (l.getD i 0).toNat ((addL 1 (l.take i) m).getD (l.getD i 0).toNat 0+1):=by
     rw [qbf l i 0 hi]
     unfold addL
     rw [List.foldl_append]
     rfl
   rw [e3]
   simp (disch:=omega) only [qcy,ckB_ix,qa,q6,qb,ckB_mk,ckB_ne,bif_lt,qf,bif_le,qc,bif_eq,qe,bif_ne,q9,qd,q4,q0,bnd_ok,lk_inl,lk_inr,Int.toNat_natCast,decide_true]
   rw [qm]
 · simp (disch:=omega) only [qcy,ckB_ix,qa,q6,qb,ckB_mk,ckB_ne,bif_lt,qf,bif_le,qc,bif_eq,qe,bif_ne,q9,qd,q4,q0,bnd_ok,lk_inl,lk_inr,Int.toNat_natCast,decide_true]
theorem Max_eq (x:List Int) (h0:0 < x.length) (hl:x.length≤1000000):∃ M,q81 x=some M∧(∀ i,i < x.length→x.getD i 0≤M)∧∃ i,i < x.length∧x.getD i 0=M:=by
 have hloop:∃ o,qfq x (x.getD 0 0,1)=some o∧∃ M,o=.inl M∧(∀ i,i < x.length→x.getD i 0≤M)∧∃ i,i < x.length∧x.getD i 0=M:=by
   refine qk5 (fun (st:Int×Int)=>∃ k:Nat,st.2=(k:Int)∧k≤x.length∧1≤k∧(∀ i,i < k→x.getD i 0≤st.1)∧∃ i,i < x.length∧x.getD i 0=st.1) (fun st=>((x.length:Int) - st.2).toNat) (fun (o:Int⊕Int)=>∃ M,o=.inl M∧(∀ i,i < x.length→x.getD i 0≤M)∧∃ i,i < x.length∧x.getD i 0=M) _
     ⟨1,rfl,h0,Nat.le_refl 1,(fun i hi=>by
       have:i=0:=by omega
       subst this
       exact Int.le_refl _),0,h0,rfl⟩ (by show ((x.length:Int) - 1).toNat < many; unfold many; omega) ?_
   rintro ⟨M,_⟩ ⟨k,rfl,hk,hk1,hle,j,hj,hjM⟩
   have hle:∀ i,i < k→x.getD i 0≤M:=hle
   have hjM:x.getD j 0=M:=hjM
   by_cases hlt:k < x.length
   · refine ⟨.next (max M (x.getD k 0),((k+1:Nat):Int)),?_,⟨k+1,rfl,by omega,by omega,fun i hi=>?_,?_⟩,by show ((x.length:Int) - ((k+1:Nat):Int)).toNat < ((x.length:Int) - (k:Int)).toNat; omega⟩
     · simp (disch:=omega) only [q5v,ckB_ix,qa,q6,qb,ckB_mk,ckB_ne,bif_lt,qf,bif_le,qc,bif_eq,qe,bif_ne,q9,qd,q4,q0,bnd_ok,lk_inl,lk_inr,Int.toNat_natCast,decide_true]
       rw [qm]
     · show x.getD i 0≤max M (x.getD k 0)
       by_cases hik:i=k
       · subst hik; exact Int.le_max_right _ _
       · exact Int.le_trans (hle i (by omega)) (Int.le_max_left _ _)
     · show ∃ i,i < x.length∧x.getD i 0=max M (x.getD k 0)
       rcases Int.le_total M (x.getD k 0) with hc | hc
       · exact ⟨k,hlt,(Int.max_eq_right hc).symm⟩
       · exact ⟨j,hj,hjM.trans (Int.max_eq_left hc).symm⟩
   · obtain rfl:k=x.length:=by omega
     exact ⟨.done M,by simp (disch:=omega) only [q5v,ckB_ix,qa,q6,qb,ckB_mk,ckB_ne,bif_lt,qf,bif_le,qc,bif_eq,qe,bif_ne,q9,qd,q4,q0,bnd_ok,lk_inl,lk_inr,Int.toNat_natCast,decide_true],M,rfl,hle,j,hj,hjM⟩
 obtain ⟨_,ho,M,rfl,h1,h2⟩:=hloop
 refine ⟨M,?_,h1,h2⟩
 have d:decide ((x.length:Int) < 1)=false:=decide_eq_false (by omega)
 have d2:ix 0 x.length=true:=ix_pos h0
 unfold q81
 rw [d,d2,ho]
 rfl
structure Fired (n:Net) (m:List Int) (t:Trans) (x:List Int):Prop where
 mem:t∈n.2.1
 can:∀ p∈t.2.1,1≤m.getD p.toNat 0
 len:x.length=m.length
 at_:∀ q:Nat,x.getD q 0=m.getD q 0+(if (q:Int)∈t.2.1 then -1 else 0)+(if (q:Int)∈t.2.2.1 then 1 else 0)
 mark:markB n.1 x=true
def mkdB (m l:List Int):Bool:=l.any fun p=>decide (0 < m.getD p.toNat 0)
theorem q10b (m l:List Int) (hl:l.length≤1000000) (hb:∀ p∈l,0≤p∧p < m.length):qaw m l=some (mkdB m l):=by
 have hL:qn1 m l 0=some (bif l.any (fun p=>decide (0 < m.getD p.toNat 0)) then .inr true else .inl ()):=by
   refine qf3 l 0 (fun p=>decide (0 < m.getD p.toNat 0)) true (by omega) (fun i hi=>?_) ?_
   · have:=hb _ (qt 0 hi)
     simp (disch:=omega) only [qac,ckB_ix,qa,q6,qb,ckB_mk,ckB_ne,bif_lt,qf,bif_le,qc,bif_eq,qe,bif_ne,q9,qd,q4,q0,bnd_ok,lk_inl,lk_inr,Int.toNat_natCast,decide_true]
     rw [qm]
     cases decide (0 < m.getD (l.getD i 0).toNat 0)<;>rfl
   · simp (disch:=omega) only [qac,ckB_ix,qa,q6,qb,ckB_mk,ckB_ne,bif_lt,qf,bif_le,qc,bif_eq,qe,bif_ne,q9,qd,q4,q0,bnd_ok,lk_inl,lk_inr,Int.toNat_natCast,decide_true]
 unfold qaw mkdB
 rw [hL,bnd_ok]
 cases l.any (fun p=>decide (0 < m.getD p.toNat 0))<;>rfl
end Go.Proofs.Ytjhojmninmipcaa
