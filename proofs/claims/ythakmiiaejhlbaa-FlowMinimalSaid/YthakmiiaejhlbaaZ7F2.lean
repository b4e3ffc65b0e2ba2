/-
  Flow: markings, firing, the reversed net.
-/
import Derived.Test.YthakmiiaejhlbaaZ7F1
set_option linter.all false
namespace Go.Proofs.Ythakmiiaejhlbaa
open Go.K Go.M
def revT (t:Trans):Trans:=(t.1,t.2.2.1,t.2.1,())
def revN (n:Net):Net:=(n.1,n.2.1.map revT,n.2.2.2.1,n.2.2.1,())
theorem filt_f {α:Type} {p:α→Bool} {x:α} (h:p x=false):[x].filter p=[]:=by rw [List.filter_cons,h]; rfl
theorem filt_t {α:Type} {p:α→Bool} {x:α} (h:p x=true):[x].filter p=[x]:=by rw [List.filter_cons,h]; rfl
theorem q13w (l:List Int) (hl:l.length≤1000000):q5b l l=some true:=by
 have hL:qed l l (l.length:Int) 0=some (.inl ()):=by
   refine q1l (fun i:Nat=>(i:Int)) l.length (q14 (by omega)) _ (fun i hi=>?_) ?_ _ rfl
   · simp only [q5o,Int.toNat_natCast]
     simp (disch:=omega) only [ckB_ix,q6,q5,qb,ckB_mk,ckB_ne,bif_lt,q9,bif_le,qa,bif_eq,qc,bif_ne,q7,q8,q4,q0,bnd_ok,lk_inl,lk_inr,Int.toNat_natCast,decide_true]
     simp
   · simp (disch:=omega) only [q5o,ckB_ix,q6,q5,qb,ckB_mk,ckB_ne,bif_lt,q9,bif_le,qa,bif_eq,qc,bif_ne,q7,q8,q4,q0,bnd_ok,lk_inl,lk_inr,Int.toNat_natCast,decide_true]
 unfold q5b
 rw [hL]
 simp
def tokB (k:Int):Bool:=decide (k < 0)||decide (100 < k)
def markB (N:Int) (m:List Int):Bool:=decide ((m.length:Int)=N)&&!m.any tokB
theorem Max_eq (x:List Int) (h0:0 < x.length) (hl:x.length≤1000000):∃ M,q6l x=some M∧(∀ i,i < x.length→x.getD i 0≤M)∧∃ i,i < x.length∧x.getD i 0=M:=by
 have hloop:∃ o,qgj x (x.getD 0 0,1)=some o∧∃ M,o=.inl M∧(∀ i,i < x.length→x.getD i 0≤M)∧∃ i,i < x.length∧x.getD i 0=M:=by
   refine q5d (fun (st:Int×Int)=>∃ k:Nat,st.2=(k:Int)∧k≤x.length∧1≤k∧(∀ i,i < k→x.getD i 0≤st.1)∧∃ i,i < x.length∧x.getD i 0=st.1) (fun st=>((x.length:Int) - st.2).toNat) (fun (o:Int⊕Int)=>∃ M,o=.inl M∧(∀ i,i < x.length→x.getD i 0≤M)∧∃ i,i < x.length∧x.getD i 0=M) _
     ⟨1,rfl,h0,Nat.le_refl 1,(fun i hi=>by
       have:i=0:=by omega
       subst this
       exact Int.le_refl _),0,h0,rfl⟩ (by show ((x.length:Int) - 1).toNat < many; unfold many; omega) ?_
   rintro ⟨M,_⟩ ⟨k,rfl,hk,hk1,hle,j,hj,hjM⟩
   have hle:∀ i,i < k→x.getD i 0≤M:=hle
   have hjM:x.getD j 0=M:=hjM
   by_cases hlt:k < x.length
   · refine ⟨.next (max M (x.getD k 0),((k+1:Nat):Int)),?_,⟨k+1,rfl,by omega,by omega,fun i hi=>?_,?_⟩,by show ((x.length:Int) - ((k+1:Nat):Int)).toNat < ((x.length:Int) - (k:Int)).toNat; omega⟩
     · simp (disch:=omega) only [q70,ckB_ix,q6,q5,qb,ckB_mk,ckB_ne,bif_lt,q9,bif_le,qa,bif_eq,qc,bif_ne,q7,q8,q4,q0,bnd_ok,lk_inl,lk_inr,Int.toNat_natCast,decide_true]
       rw [qg]
     · show x.getD i 0≤max M (x.getD k 0)
       by_cases hik:i=k
       · subst hik; exact Int.le_max_right _ _
       · exact Int.le_trans (hle i (by omega)) (Int.le_max_left _ _)
     · show ∃ i,i < x.length∧x.getD i 0=max M (x.getD k 0)
       rcases Int.le_total M (x.getD k 0) with hc | hc
       · exact ⟨k,hlt,(Int.max_eq_right hc).symm⟩
       · exact ⟨j,hj,hjM.trans (Int.max_eq_left hc).symm⟩
   · obtain rfl:k=x.length:=by omega
     exact ⟨.done M,by simp (disch:=omega) only [q70,ckB_ix,q6,q5,qb,ckB_mk,ckB_ne,bif_lt,q9,bif_le,qa,bif_eq,qc,bif_ne,q7,q8,q4,q0,bnd_ok,lk_inl,lk_inr,Int.toNat_natCast,decide_true],M,rfl,hle,j,hj,hjM⟩
 obtain ⟨_,ho,M,rfl,h1,h2⟩:=hloop
 refine ⟨M,?_,h1,h2⟩
 have d:decide ((x.length:Int) < 1)=false:=decide_eq_false (by omega)
 have d2:ix 0 x.length=true:=ix_pos h0
 unfold q6l
 rw [d,d2,ho]
 rfl
structure Fired (n:Net) (m:List Int) (t:Trans) (x:List Int):Prop where
 mem:t∈n.2.1
 can:∀ p∈t.2.1,1≤m.getD p.toNat 0
 len:x.length=m.length
 at_:∀ q:Nat,x.getD q 0=m.getD q 0+(if (q:Int)∈t.2.1 then -1 else 0)+(if (q:Int)∈t.2.2.1 then 1 else 0)
 mark:markB n.1 x=true
theorem qwa {n:Net} (h:Small n) (hv:validN n=true):qej n=some (revN n,0):=by
 have hL:qmx n.2.1 (n.2.1.length:Int) 0 [] 0 0 n.1 n.2.2.2.1 n.2.2.1 (0,[])=some (.inl (n.2.1.map revT)):=by
   have:=h.trans
   refine q1l (fun i:Nat=>((i:Int),(n.2.1.take i).map revT)) n.2.1.length (q14 (by omega)) _ (fun i hi=>?_) ?_ _ rfl
   · have h1:=h.ins _ (qq Trans.z hi)
     have h2:=h.outs _ (qq Trans.z hi)
     have hl:((n.2.1.take i).map revT).length=i:=by rw [List.length_map,List.length_take]; omega
     have e1:=q9n (n.2.1.getD i Trans.z).2.2.1 (by omega)
     have e2:=q9n (n.2.1.getD i Trans.z).2.1 (by omega)
     simp only [qb1,Int.toNat_natCast,e1,e2,bnd_ok,hl]
     simp (disch:=omega) only [ckB_ix,q6,q5,qb,ckB_mk,ckB_ne,bif_lt,q9,bif_le,qa,bif_eq,qc,bif_ne,q7,q8,q4,q0,bnd_ok,lk_inl,lk_inr,Int.toNat_natCast,decide_true]
     rw [qg,qia n.2.1 i Trans.z hi,List.map_append]
     rfl
   · simp only [qb1,List.take_length]
     simp (disch:=omega) only [ckB_ix,q6,q5,qb,ckB_mk,ckB_ne,bif_lt,q9,bif_le,qa,bif_eq,qc,bif_ne,q7,q8,q4,q0,bnd_ok,lk_inl,lk_inr,Int.toNat_natCast,decide_true]
 unfold qej
 rw [qly h,hv,hL]
 rfl
end Go.Proofs.Ythakmiiaejhlbaa
