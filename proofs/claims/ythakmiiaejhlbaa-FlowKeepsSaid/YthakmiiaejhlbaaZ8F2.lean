/-
  Flow: markings, firing, the reversed net.
-/
import Derived.Test.YthakmiiaejhlbaaZ8F1
set_option linter.all false
namespace Go.Proofs.Ythakmiiaejhlbaa
open Go.K Go.M
theorem filt_f {α:Type} {p:α→Bool} {x:α} (h:p x=false):[x].filter p=[]:=by rw [List.filter_cons,h]; rfl
theorem filt_t {α:Type} {p:α→Bool} {x:α} (h:p x=true):[x].filter p=[x]:=by rw [List.filter_cons,h]; rfl
theorem q126 (l:List Int) (hl:l.length≤1000000):q2r l l=some true:=by
 have hL:q9o l l (l.length:Int) 0=some (.inl ()):=by
   refine q1r (fun i:Nat=>(i:Int)) l.length (q13 (by omega)) _ (fun i hi=>?_) ?_ _ rfl
   · simp only [q1y,Int.toNat_natCast]
     simp (disch:=omega) only [ckB_ix,q6,q5,qc,ckB_mk,ckB_ne,bif_lt,q8,bif_le,qa,bif_eq,q9,bif_ne,q7,qb,q4,q0,bnd_ok,lk_inl,lk_inr,Int.toNat_natCast,decide_true]
     simp
   · simp (disch:=omega) only [q1y,ckB_ix,q6,q5,qc,ckB_mk,ckB_ne,bif_lt,q8,bif_le,qa,bif_eq,q9,bif_ne,q7,qb,q4,q0,bnd_ok,lk_inl,lk_inr,Int.toNat_natCast,decide_true]
 unfold q2r
 rw [hL]
 simp
def tokB (k:Int):Bool:=decide (k < 0)||decide (100 < k)
def markB (N:Int) (m:List Int):Bool:=decide ((m.length:Int)=N)&&!m.any tokB
theorem q4v {N:Int} {m:List Int}:markB N m=true↔(m.length:Int)=N∧∀ i,i < m.length→0≤m.getD i 0∧m.getD i 0≤100:=by
 unfold markB
 rw [Bool.and_eq_true,decide_eq_true_eq,Bool.not_eq_true',List.any_eq_false]
 constructor
 · rintro ⟨h1,h2⟩
   refine ⟨h1,fun i hi=>?_⟩
   have:=h2 _ (qq 0 hi)
   unfold tokB at this
   simp only [Bool.or_eq_true,decide_eq_true_eq,not_or] at this
   omega
 · rintro ⟨h1,h2⟩
   refine ⟨h1,fun x hx=>?_⟩
   obtain ⟨i,hi,rfl⟩:=ql9 0 hx
   have:=h2 i hi
   unfold tokB
   simp only [Bool.or_eq_true,decide_eq_true_eq,not_or]
   omega
theorem qmq {n:Net} (h:Small n) (m:List Int) (hm:m.length≤1000000):qbk n m=some (validN n&&markB n.1 m):=by
 have hL:q9z m (m.length:Int) 0=some (fOut (fun i=>(i:Int)) (fidx tokB m)):=by
   refine qcd m 0 tokB (fun i=>(i:Int)) (by omega) (fun i hi=>?_) ?_
   · unfold tokB
     simp (disch:=omega) only [q31,qgi,ckB_ix,q6,q5,qc,ckB_mk,ckB_ne,bif_lt,q8,bif_le,qa,bif_eq,q9,bif_ne,q7,qb,q4,q0,bnd_ok,lk_inl,lk_inr,Int.toNat_natCast,decide_true]
     rw [qg]
     cases decide (m.getD i 0 < 0)<;>cases decide (100 < m.getD i 0)<;>rfl
   · simp (disch:=omega) only [q31,ckB_ix,q6,q5,qc,ckB_mk,ckB_ne,bif_lt,q8,bif_le,qa,bif_eq,q9,bif_ne,q7,qb,q4,q0,bnd_ok,lk_inl,lk_inr,Int.toNat_natCast,decide_true]
 have hC:q30 m=some (m.any tokB):=by
   unfold q30 q78
   rw [hL,bnd_ok,qi2,bnd_ok,qhf]
 unfold qbk markB
 rw [qtn h,hC]
 cases validN n<;>cases decide ((m.length:Int)=n.1)<;>cases m.any tokB<;>rfl
theorem qjr {n:Net} (hv:validN n=true) {t:Trans} (ht:t∈n.2.1):setB n.1 t.2.1=true∧setB n.1 t.2.2.1=true:=by
 unfold validN at hv
 simp only [Bool.and_eq_true,Bool.not_eq_true'] at hv
 have:=List.any_eq_false.1 hv.1.1.2 t ht
 unfold badT at this
 simp only [Bool.or_eq_true,Bool.not_eq_true',not_or,Bool.not_eq_false] at this
 exact ⟨this.1.2,this.2⟩
def addL (c:Int) (l:List Int) (m:List Int):List Int:=l.foldl (fun m p=>m.set p.toNat (m.getD p.toNat 0+c)) m
theorem qf0 (c:Int):∀ (l:List Int) (m:List Int),(addL c l m).length=m.length
 | [], _ => rfl
 | p :: l, m => (qf0 c l _).trans (List.length_set ..)
theorem qk7 (c:Int):∀ (l:List Int) (m:List Int),l.Pairwise (· < ·)→(∀ p∈l,0≤p∧p < m.length)→∀ q:Nat,(addL c l m).getD q 0=m.getD q 0+(if (q:Int)∈l then c else 0)
 | [], m, _, _, q => by simp [addL]
 | p :: l, m, hs, hb, q => by
   obtain ⟨h1,h2⟩:=List.pairwise_cons.1 hs
   have hp:=hb p List.mem_cons_self
   have ih:=qk7 c l (m.set p.toNat (m.getD p.toNat 0+c)) h2 (fun x hx=>by rw [List.length_set]; exact hb x (List.mem_cons_of_mem _ hx)) q
   show (addL c l (m.set p.toNat (m.getD p.toNat 0+c))).getD q 0=_
   rw [ih]
   by_cases hq:(q:Int)=p
   · have e:p.toNat=q:=by omega
     have hno:(q:Int)∉l:=fun hc=>by have:=h1 _ hc; omega
     rw [if_neg hno,if_pos (by rw [hq]; exact List.mem_cons_self),e,List.getD_eq_getElem?_getD,List.getElem?_set_self (by omega)]
     simp
   · have e:p.toNat≠q:=by omega
     have hiff:(q:Int)∈p::l↔(q:Int)∈l:=⟨fun hc=>(List.mem_cons.1 hc).resolve_left hq,List.mem_cons_of_mem _⟩
     rw [List.getD_eq_getElem?_getD,List.getElem?_set_ne e,← List.getD_eq_getElem?_getD]
     by_cases hl:(q:Int)∈l
     · rw [if_pos hl,if_pos (hiff.2 hl)]
     · rw [if_neg hl,if_neg fun h=>hl (hiff.1 h)]
def canB (t:Trans) (m:List Int):Bool:=!t.2.1.any fun p=>decide (m.getD p.toNat 0=0)
theorem qpw (t:Trans) (m:List Int) (ht:t.2.1.length≤1000000) (hb:∀ p∈t.2.1,0≤p∧p < m.length):qbj t m=some (canB t m):=by
 have hL:qa0 t.2.1 m (t.2.1.length:Int) 0=some (fOut (fun i=>(i:Int)) (fidx (fun p=>decide (m.getD p.toNat 0=0)) t.2.1)):=by
   refine qcd t.2.1 0 (fun p=>decide (m.getD p.toNat 0=0)) (fun i=>(i:Int)) (by omega) (fun i hi=>?_) ?_
   · have:=hb _ (qq 0 hi)
     simp (disch:=omega) only [q33,qgy,ckB_ix,q6,q5,qc,ckB_mk,ckB_ne,bif_lt,q8,bif_le,qa,bif_eq,q9,bif_ne,q7,qb,q4,q0,bnd_ok,lk_inl,lk_inr,Int.toNat_natCast,decide_true]
     rw [qg]
     cases decide (m.getD (t.2.1.getD i 0).toNat 0=0)<;>rfl
   · simp (disch:=omega) only [q33,ckB_ix,q6,q5,qc,ckB_mk,ckB_ne,bif_lt,q8,bif_le,qa,bif_eq,q9,bif_ne,q7,qb,q4,q0,bnd_ok,lk_inl,lk_inr,Int.toNat_natCast,decide_true]
 unfold qbj q5e q77 canB
 rw [hL,bnd_ok,qi2,bnd_ok,bnd_ok,qhf]
theorem qxk (s:ByteArray) (l o:List Int) (m:List Int) (hl:l.length≤1000000) (hs:l.Pairwise (· < ·)) (hb:∀ p∈l,0≤p∧p < m.length) (hm:∀ i,i < m.length → -1000≤m.getD i 0∧m.getD i 0≤1000) :
   qrs l (l.length:Int) s l o (0,m)=some (.inl (addL (-1) l m)):=by
 have e:addL (-1) l m=addL (-1) (l.take l.length) m:=by rw [List.take_length]
 rw [e]
 refine q1r (fun i:Nat=>((i:Int),addL (-1) (l.take i) m)) l.length (q13 (by omega)) _ (fun i hi=>?_) ?_ _ rfl
 · have hp:=hb _ (qq 0 hi)
   have hlen:=qf0 (-1) (l.take i) m
   have hat:=qk7 (-1) (l.take i) m (hs.sublist (List.take_sublist _ _)) (fun p hp=>hb p (List.mem_of_mem_take hp)) (l.getD i 0).toNat
   have hmv:=hm (l.getD i 0).toNat (by omega)
   have hbd : -2000≤(addL (-1) (l.take i) m).getD (l.getD i 0).toNat 0∧(addL (-1) (l.take i) m).getD (l.getD i 0).toNat 0≤2000:=by
     rw [hat]
     split<;>omega
   have e3:addL (-1) (l.take (i+1)) m=(addL (-1) (l.take i) m).set (l.getD i 0).toNat ((addL (-1) (l.take i) m).getD (l.getD i 0).toNat 0 - 1):=by
     rw [qcw l i 0 hi]
     unfold addL
     rw [List.foldl_append]
     rfl
   rw [e3]
   simp (disch:=omega) only [qel,ckB_ix,q6,q5,qc,ckB_mk,ckB_ne,bif_lt,q8,bif_le,qa,bif_eq,q9,bif_ne,q7,qb,q4,q0,bnd_ok,lk_inl,lk_inr,Int.toNat_natCast,decide_true]
   rw [qg]
 · simp (disch:=omega) only [qel,ckB_ix,q6,q5,qc,ckB_mk,ckB_ne,bif_lt,q8,bif_le,qa,bif_eq,q9,bif_ne,q7,qb,q4,q0,bnd_ok,lk_inl,lk_inr,Int.toNat_natCast,decide_true]
theorem qx6 (l:List Int) (m:List Int) (hl:l.length≤1000000) (hs:l.Pairwise (· < ·)) (hb:∀ p∈l,0≤p∧p < m.length) (hm:∀ i,i < m.length → -1000≤m.getD i 0∧m.getD i 0≤1000) :
   qqx l (l.length:Int) (0,m)=some (.inl (addL 1 l m)):=by
 have e:addL 1 l m=addL 1 (l.take l.length) m:=by rw [List.take_length]
 rw [e]
 refine q1r (fun i:Nat=>((i:Int),addL 1 (l.take i) m)) l.length (q13 (by omega)) _ (fun i hi=>?_) ?_ _ rfl
 · have hp:=hb _ (qq 0 hi)
   have hlen:=qf0 1 (l.take i) m
   have hat:=qk7 1 (l.take i) m (hs.sublist (List.take_sublist _ _)) (fun p hp=>hb p (List.mem_of_mem_take hp)) (l.getD i 0).toNat
   have hmv:=hm (l.getD i 0).toNat (by omega)
   have hbd : -2000≤(addL 1 (l.take i) m).getD (l.getD i 0).toNat 0∧(addL 1 (l.take i) m).getD (l.getD i 0).toNat 0≤2000:=by
     rw [hat]
     split<;>omega
   have e3:addL 1 (l.take (i+1)) m=(addL 1 (l.take i) m).set (l.getD i 0).toNat ((addL 1 (l.take i) m).getD (l.getD i 0).toNat 0+1):=by
     rw [qcw l i 0 hi]
     unfold addL
     rw [List.foldl_append]
     rfl
   rw [e3]
   simp (disch:=omega) only [qej,ckB_ix,q6,q5,qc,ckB_mk,ckB_ne,bif_lt,q8,bif_le,qa,bif_eq,q9,bif_ne,q7,qb,q4,q0,bnd_ok,lk_inl,lk_inr,Int.toNat_natCast,decide_true]
   rw [qg]
 · simp (disch:=omega) only [qej,ckB_ix,q6,q5,qc,ckB_mk,ckB_ne,bif_lt,q8,bif_le,qa,bif_eq,q9,bif_ne,q7,qb,q4,q0,bnd_ok,lk_inl,lk_inr,Int.toNat_natCast,decide_true]
theorem Max_eq (x:List Int) (h0:0 < x.length) (hl:x.length≤1000000):∃ M,q9c x=some M∧(∀ i,i < x.length→x.getD i 0≤M)∧∃ i,i < x.length∧x.getD i 0=M:=by
 have hloop:∃ o,qg6 x (x.getD 0 0,1)=some o∧∃ M,o=.inl M∧(∀ i,i < x.length→x.getD i 0≤M)∧∃ i,i < x.length∧x.getD i 0=M:=by
   refine q3e (fun (st:Int×Int)=>∃ k:Nat,st.2=(k:Int)∧k≤x.length∧1≤k∧(∀ i,i < k→x.getD i 0≤st.1)∧∃ i,i < x.length∧x.getD i 0=st.1) (fun st=>((x.length:Int) - st.2).toNat) (fun (o:Int⊕Int)=>∃ M,o=.inl M∧(∀ i,i < x.length→x.getD i 0≤M)∧∃ i,i < x.length∧x.getD i 0=M) _
     ⟨1,rfl,h0,Nat.le_refl 1,(fun i hi=>by
       have:i=0:=by omega
       subst this
       exact Int.le_refl _),0,h0,rfl⟩ (by show ((x.length:Int) - 1).toNat < many; unfold many; omega) ?_
   rintro ⟨M,_⟩ ⟨k,rfl,hk,hk1,hle,j,hj,hjM⟩
   have hle:∀ i,i < k→x.getD i 0≤M:=hle
   have hjM:x.getD j 0=M:=hjM
   by_cases hlt:k < x.length
   · refine ⟨.next (max M (x.getD k 0),((k+1:Nat):Int)),?_,⟨k+1,rfl,by omega,by omega,fun i hi=>?_,?_⟩,by show ((x.length:Int) - ((k+1:Nat):Int)).toNat < ((x.length:Int) - (k:Int)).toNat; omega⟩
     · simp (disch:=omega) only [q7h,ckB_ix,q6,q5,qc,ckB_mk,ckB_ne,bif_lt,q8,bif_le,qa,bif_eq,q9,bif_ne,q7,qb,q4,q0,bnd_ok,lk_inl,lk_inr,Int.toNat_natCast,decide_true]
       rw [qg]
     · show x.getD i 0≤max M (x.getD k 0)
       by_cases hik:i=k
       · subst hik; exact Int.le_max_right _ _
       · exact Int.le_trans (hle i (by omega)) (Int.le_max_left _ _)
     · show ∃ i,i < x.length∧x.getD i 0=max M (x.getD k 0)
       rcases Int.le_total M (x.getD k 0) with hc | hc
       · exact ⟨k,hlt,(Int.max_eq_right hc).symm⟩
       · exact ⟨j,hj,hjM.trans (Int.max_eq_left hc).symm⟩
   · obtain rfl:k=x.length:=by omega
     exact ⟨.done M,by simp (disch:=omega) only [q7h,ckB_ix,q6,q5,qc,ckB_mk,ckB_ne,bif_lt,q8,bif_le,qa,bif_eq,q9,bif_ne,q7,qb,q4,q0,bnd_ok,lk_inl,lk_inr,Int.toNat_natCast,decide_true],M,rfl,hle,j,hj,hjM⟩
 obtain ⟨_,ho,M,rfl,h1,h2⟩:=hloop
 refine ⟨M,?_,h1,h2⟩
 have d:decide ((x.length:Int) < 1)=false:=decide_eq_false (by omega)
 have d2:ix 0 x.length=true:=ix_pos h0
 unfold q9c
 rw [d,d2,ho]
 rfl
structure Fired (n:Net) (m:List Int) (t:Trans) (x:List Int):Prop where
 mem:t∈n.2.1
 can:∀ p∈t.2.1,1≤m.getD p.toNat 0
 len:x.length=m.length
 at_:∀ q:Nat,x.getD q 0=m.getD q 0+(if (q:Int)∈t.2.1 then -1 else 0)+(if (q:Int)∈t.2.2.1 then 1 else 0)
 mark:markB n.1 x=true
theorem q162 {n:Net} (h:Small n) (hv:validN n=true) (m:List Int) (hm:markB n.1 m=true) (t:Int):∃ r,qd8 n m t=some r∧(r.1=0→0≤t∧t < n.2.1.length∧Fired n m (n.2.1.getD t.toNat Trans.z) r.2):=by
 have htr:=h.trans
 obtain ⟨hml,hmb⟩:=q4v.1 hm
 have hN:1≤n.1∧n.1≤40:=by
   unfold validN at hv
   simp only [Bool.and_eq_true,decide_eq_true_eq] at hv
   exact hv.1.1.1.1
 unfold qd8
 by_cases h0:t < 0
 · exact ⟨(2,[]),by simp (disch:=omega) only [ckB_ix,q6,q5,qc,ckB_mk,ckB_ne,bif_lt,q8,bif_le,qa,bif_eq,q9,bif_ne,q7,qb,q4,q0,bnd_ok,lk_inl,lk_inr,Int.toNat_natCast,decide_true],fun h=>by cases h⟩
 · by_cases h1:(n.2.1.length:Int)≤t
   · exact ⟨(2,[]),by simp (disch:=omega) only [ckB_ix,q6,q5,qc,ckB_mk,ckB_ne,bif_lt,q8,bif_le,qa,bif_eq,q9,bif_ne,q7,qb,q4,q0,bnd_ok,lk_inl,lk_inr,Int.toNat_natCast,decide_true],fun h=>by cases h⟩
   · have hmem:n.2.1.getD t.toNat Trans.z∈n.2.1:=qq Trans.z (by omega)
     obtain ⟨hs1,hs2⟩:=qjr hv hmem
     have hi:=h.ins _ hmem
     have ho:=h.outs _ hmem
     generalize n.2.1.getD t.toNat Trans.z=T at hmem hs1 hs2 hi ho
     obtain ⟨hb1,hp1⟩:=qli.1 hs1
     obtain ⟨hb2,hp2⟩:=qli.1 hs2
     have hb1':∀ p∈T.2.1,0≤p∧p < m.length:=fun p hp=>by have:=hb1 p hp; omega
     have e1:=qpw T m (by omega) hb1'
     cases hc:canB T m with
     | false =>
       rw [hc] at e1
       exact ⟨(12,[]),by simp (disch:=omega) only [e1,ckB_ix,q6,q5,qc,ckB_mk,ckB_ne,bif_lt,q8,bif_le,qa,bif_eq,q9,bif_ne,q7,qb,q4,q0,bnd_ok,lk_inl,lk_inr,Int.toNat_natCast,decide_true],fun h=>by cases h⟩
     | true =>
       rw [hc] at e1
       have e2:=qxk T.1 T.2.1 T.2.2.1 m (by omega) hp1 hb1' (fun i hi=>by have:=hmb i hi; omega)
       have hat:=qk7 (-1) T.2.1 m hp1 hb1'
       have hlen:=qf0 (-1) T.2.1 m
       have hb2':∀ p∈T.2.2.1,0≤p∧p < (addL (-1) T.2.1 m).length:=fun p hp=>by have:=hb2 p hp; omega
       have e3:=qx6 T.2.2.1 (addL (-1) T.2.1 m) (by omega) hp2 hb2' (fun i hi=>by
         have:=hmb i (by omega)
         rw [hat i]
         split<;>omega)
       have hat2:=qk7 1 T.2.2.1 (addL (-1) T.2.1 m) hp2 hb2'
       have hlen2:=qf0 1 T.2.2.1 (addL (-1) T.2.1 m)
       obtain ⟨M,e4,hM1,hM2⟩:=Max_eq (addL 1 T.2.2.1 (addL (-1) T.2.1 m)) (by omega) (by omega)
       have e5:=qbc m (by omega)
       by_cases hM:(100:Int) < M
       · exact ⟨(5,[]),by simp (disch:=omega) only [e1,e5,e2,e3,e4,ckB_ix,q6,q5,qc,ckB_mk,ckB_ne,bif_lt,q8,bif_le,qa,bif_eq,q9,bif_ne,q7,qb,q4,q0,bnd_ok,lk_inl,lk_inr,Int.toNat_natCast,decide_true],fun h=>by cases h⟩
       · refine ⟨(0,addL 1 T.2.2.1 (addL (-1) T.2.1 m)),by simp (disch:=omega) only [e1,e5,e2,e3,e4,ckB_ix,q6,q5,qc,ckB_mk,ckB_ne,bif_lt,q8,bif_le,qa,bif_eq,q9,bif_ne,q7,qb,q4,q0,bnd_ok,lk_inl,lk_inr,Int.toNat_natCast,decide_true],fun _=>⟨by omega,by omega,?_⟩⟩
         have hcan:∀ p∈T.2.1,1≤m.getD p.toNat 0:=fun p hp=>by
           unfold canB at hc
           rw [Bool.not_eq_true',List.any_eq_false] at hc
           have:=hc p hp
           have hpb:=hb1' p hp
           have:=hmb p.toNat (by omega)
           have:¬ m.getD p.toNat 0=0:=by simpa using hc p hp
           omega
         have hx:∀ q:Nat,(addL 1 T.2.2.1 (addL (-1) T.2.1 m)).getD q 0=m.getD q 0+(if (q:Int)∈T.2.1 then -1 else 0)+(if (q:Int)∈T.2.2.1 then 1 else 0):=fun q=>by rw [hat2,hat]
         refine ⟨hmem,hcan,by show (addL 1 T.2.2.1 (addL (-1) T.2.1 m)).length=m.length; omega,hx,q4v.2 ⟨by show ((addL 1 T.2.2.1 (addL (-1) T.2.1 m)).length:Int)=n.1; omega,fun i hi=>?_⟩⟩
         have hi:i < (addL 1 T.2.2.1 (addL (-1) T.2.1 m)).length:=hi
         have h3:=hM1 i hi
         have h4:=hx i
         have h5:=hmb i (by omega)
         show 0≤(addL 1 T.2.2.1 (addL (-1) T.2.1 m)).getD i 0∧_
         refine ⟨?_,Int.le_trans h3 (by omega)⟩
         rw [h4]
         by_cases hin:(i:Int)∈T.2.1
         · have:=hcan _ hin
           rw [Int.toNat_natCast] at this
           rw [if_pos hin]
           split<;>omega
         · rw [if_neg hin]
           split<;>omega
def enN (n:Net) (m:List Int) (i:Nat):List Nat:=(List.range i).filter fun j=>canB (n.2.1.getD j Trans.z) m
def enL (n:Net) (m:List Int):List Int:=(enN n m n.2.1.length).map fun (j:Nat)=>(j:Int)
theorem qpl {n:Net} (h:Small n) (m:List Int) (hm:m.length≤1000000):q7l n m=some (bif validN n&&markB n.1 m then (0,enL n m) else (1,[])):=by
 unfold q7l
 rw [qmq h m hm]
 cases hv:validN n with
 | false => rfl
 | true =>
   cases hk:markB n.1 m with
   | false => rfl
   | true =>
     have hlen:=h.trans
     have hL:qm0 m n.2.1 (n.2.1.length:Int) (0,[])=some (.inl (enL n m)):=by
       unfold enL
       refine q1r (fun i:Nat=>((i:Int),(enN n m i).map fun (j:Nat)=>(j:Int))) n.2.1.length (q13 (by omega)) _ (fun i hi=>?_) ?_ _ rfl
       · have ht:=qq Trans.z hi
         have hb:=(qli.1 (qjr hv ht).1).1
         have hml:=(q4v.1 hk).1
         have e1:=qpw (n.2.1.getD i Trans.z) m (Nat.le_trans (h.ins _ ht) (by omega)) (fun p hp=>by have:=hb p hp; omega)
         have e2:enN n m (i+1)=bif canB (n.2.1.getD i Trans.z) m then enN n m i++[i] else enN n m i:=by
           unfold enN
           rw [List.range_succ,List.filter_append]
           cases hc:canB (n.2.1.getD i Trans.z) m with
           | true => rw [filt_t (p:=fun j=>canB (n.2.1.getD j Trans.z) m) hc]; rfl
           | false => rw [filt_f (p:=fun j=>canB (n.2.1.getD j Trans.z) m) hc,List.append_nil]; rfl
         have hle:((enN n m i).map fun (j:Nat)=>(j:Int)).length≤i:=by
           rw [List.length_map]
           have:=List.length_filter_le (fun j=>canB (n.2.1.getD j Trans.z) m) (List.range i)
           rw [List.length_range] at this
           exact this
         rw [e2]
         cases hc:canB (n.2.1.getD i Trans.z) m with
         | true =>
           rw [hc] at e1
           simp only [q88,Int.toNat_natCast,e1,bnd_ok]
           simp (disch:=omega) only [ckB_ix,q6,q5,qc,ckB_mk,ckB_ne,bif_lt,q8,bif_le,qa,bif_eq,q9,bif_ne,q7,qb,q4,q0,bnd_ok,lk_inl,lk_inr,Int.toNat_natCast,decide_true]
           rw [qg,List.map_append]
           rfl
         | false =>
           rw [hc] at e1
           simp only [q88,Int.toNat_natCast,e1,bnd_ok]
           simp (disch:=omega) only [ckB_ix,q6,q5,qc,ckB_mk,ckB_ne,bif_lt,q8,bif_le,qa,bif_eq,q9,bif_ne,q7,qb,q4,q0,bnd_ok,lk_inl,lk_inr,Int.toNat_natCast,decide_true]
           rw [qg]
       · simp (disch:=omega) only [q88,ckB_ix,q6,q5,qc,ckB_mk,ckB_ne,bif_lt,q8,bif_le,qa,bif_eq,q9,bif_ne,q7,qb,q4,q0,bnd_ok,lk_inl,lk_inr,Int.toNat_natCast,decide_true]
     simp only [Bool.and_self,bnd_ok,Bool.not_true,cond_false,hL,lk_inl,cond_true]
end Go.Proofs.Ythakmiiaejhlbaa
