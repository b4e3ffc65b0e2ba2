/-
  Siphon: the greatest siphon, or trap, in a set; the law SiphonForms.
-/
import Derived.Test.YtjhojmninmipcaaZ9U1
set_option linter.all false
namespace Go.Proofs.Ytjhojmninmipcaa
open Go.K Go.M
def endA (t:Trans) (trap:Bool):List Int:=bif trap then t.2.1 else t.2.2.1
def endB (t:Trans) (trap:Bool):List Int:=bif trap then t.2.2.1 else t.2.1
theorem q118 (t:Trans) (trap:Bool):qfm t trap=some (endA t trap,endB t trap):=by
  unfold qfm endA endB
  cases trap <;> rfl
def openT (trap:Bool) (l:List Int) (t:Trans):Bool:=meetB (endA t trap) l && !meetB (endB t trap) l
def qen (ts:List Trans) (trap:Bool) (l:List Int):Bool:=!ts.any (openT trap l)
structure SmallT (ts:List Trans):Prop where
  trans:ts.length ≤ 100
  ins:∀ t ∈ ts,t.2.1.length ≤ 50
  outs:∀ t ∈ ts,t.2.2.1.length ≤ 50
theorem Small.T {n:Net} (h:Small n):SmallT n.2.1:=⟨h.trans,h.ins,h.outs⟩
theorem SmallT.a {ts:List Trans} (h:SmallT ts) {t:Trans} (ht:t ∈ ts) (trap:Bool):(endA t trap).length ≤ 50:=by
  cases trap
  · exact h.outs t ht
  · exact h.ins t ht
theorem SmallT.b {ts:List Trans} (h:SmallT ts) {t:Trans} (ht:t ∈ ts) (trap:Bool):(endB t trap).length ≤ 50:=by
  cases trap
  · exact h.ins t ht
  · exact h.outs t ht
theorem qxs {n:Net} (h:SmallT n.2.1) (l:List Int) (hl:l.length ≤ 1000000) (trap:Bool):qa1 n l trap=some (qen n.2.1 trap l):=by
  have hL:q5t n.2.1 trap l (n.2.1.length:Int) 0=some (fOut (fun i=>(i:Int)) (fidx (openT trap l) n.2.1)):=by
    have:=h.trans
    refine q5d n.2.1 Trans.z (openT trap l) (fun i=>(i:Int)) (by omega) (fun i hi=>?_) ?_
    · have h1:=h.a (qx Trans.z hi) trap
      have h2:=h.b (qx Trans.z hi) trap
      have e:qdk (n.2.1.getD i Trans.z) trap l=some (openT trap l (n.2.1.getD i Trans.z)):=by
        unfold qdk openT
        rw [q118]
        simp only [bnd_ok]
        rw [quq _ _ (by omega) hl,quq _ _ (by omega) hl]
        simp only [bnd_ok]
        rw [show ix 0 1=true from rfl]
        cases meetB (endA (n.2.1.getD i Trans.z) trap) l <;> rfl
      simp (disch:=omega) only [q1l,e,ckB_ix,q7,q6,q8,ckB_mk,ckB_ne,bif_lt,qa,bif_le,qd,bif_eq,q9,bif_ne,qc,qb,q5,q4,bnd_ok,lk_inl,lk_inr,Int.toNat_natCast,decide_true]
      rw [qh]
      exact qv0
    · simp (disch:=omega) only [q1l,ckB_ix,q7,q6,q8,ckB_mk,ckB_ne,bif_lt,qa,bif_le,qd,bif_eq,q9,bif_ne,qc,qb,q5,q4,bnd_ok,lk_inl,lk_inr,Int.toNat_natCast,decide_true]
  unfold qa1 q2l q38 qen
  rw [hL,bnd_ok,qbp,bnd_ok,bnd_ok,qd3]
def Closed (ts:List Trans) (trap:Bool) (W:List Int):Prop:=qen ts trap W=true
theorem q8t {a b:List Int}:meetB a b=true ↔ ∃ p,p ∈ a ∧ p ∈ b:=by
  unfold meetB
  rw [List.any_eq_true]
  constructor
  · rintro ⟨p,hp,h⟩; exact ⟨p,hp,q8g.1 h⟩
  · rintro ⟨p,hp,h⟩; exact ⟨p,hp,q8g.2 h⟩
theorem qlt {ts:List Trans} {trap:Bool} {W:List Int}:Closed ts trap W ↔ ∀ t ∈ ts,(∃ p,p ∈ endA t trap ∧ p ∈ W) → ∃ p,p ∈ endB t trap ∧ p ∈ W:=by
  unfold Closed qen
  rw [Bool.not_eq_true',List.any_eq_false]
  constructor
  · intro h t ht hA
    have:=h t ht
    unfold openT at this
    rw [Bool.and_eq_true,Bool.not_eq_true',not_and] at this
    have h2:=this (q8t.2 hA)
    exact q8t.1 (by simpa using h2)
  · intro h t ht hc
    unfold openT at hc
    rw [Bool.and_eq_true,Bool.not_eq_true'] at hc
    have:=q8t.2 (h t ht (q8t.1 hc.1))
    rw [hc.2] at this
    cases this
def Holds (ts:List Trans) (trap:Bool) (l out:List Int):Prop:=(∃ p:Int → Bool,out=l.filter p) ∧ ∀ W,Closed ts trap W → (∀ x ∈ W,x ∈ l) → ∀ x ∈ W,x ∈ out
def Great (ts:List Trans) (trap:Bool) (l out:List Int):Prop:=Holds ts trap l out ∧ Closed ts trap out
theorem q11s (ts:List Trans) (trap:Bool) (l:List Int):Holds ts trap l l:=⟨⟨fun _=>true,(List.filter_eq_self.2 fun _ _=>rfl).symm⟩,fun W _ h=>h⟩
theorem qyt {ts:List Trans} {trap:Bool} {l out:List Int} (h:Holds ts trap l out) {p:Int → Bool} (hp:∀ W,Closed ts trap W → (∀ x ∈ W,x ∈ out) → ∀ x ∈ W,p x=true):Holds ts trap l (out.filter p):=by
  obtain ⟨⟨q,rfl⟩,h2⟩:=h
  refine ⟨⟨fun x=>p x && q x,by rw [List.filter_filter]⟩,fun W hW hl x hx=>List.mem_filter.2 ⟨h2 W hW hl x hx,hp W hW (h2 W hW hl) x hx⟩⟩
theorem filt_f {α:Type} {p:α → Bool} {x:α} (h:p x=false):[x].filter p=[]:=by rw [List.filter_cons,h]; rfl
theorem filt_t {α:Type} {p:α → Bool} {x:α} (h:p x=true):[x].filter p=[x]:=by rw [List.filter_cons,h]; rfl
theorem q11v {α:Type} (xs:List α) (off n:Nat) (ys:List α) (h:off ≤ xs.length):(copyL xs off n ys).take off=xs.take off:=by
  unfold copyL
  have hl:(xs.take off).length=off:=by rw [List.length_take]; omega
  rw [List.take_append_of_le_length (by omega),List.take_take,Nat.min_self]
theorem qy1 (a out:List Int) (ha:a.length ≤ 1000000) (ho:out.length ≤ 1000000):q4a a out=some (out.filter fun p=>!memB a p):=by
  have hg:∀ p,q8j p a=some (memB a p):=fun p=>by
    unfold q8j
    rw [qol a ha]
    rfl
  have hI:q4h out a=some (idxI (memB a) out):=by
    have hL:qb9 out a (out.length:Int) 0=some (fOut (fun i=>(i:Int)) (fidx (memB a) out)):=by
      refine q5d out 0 (memB a) (fun i=>(i:Int)) (by omega) (fun i hi=>?_) ?_
      · simp (disch:=omega) only [q3i,hg,ckB_ix,q7,q6,q8,ckB_mk,ckB_ne,bif_lt,qa,bif_le,qd,bif_eq,q9,bif_ne,qc,qb,q5,q4,bnd_ok,lk_inl,lk_inr,Int.toNat_natCast,decide_true]
        rw [qh]
        exact qv0
      · simp (disch:=omega) only [q3i,ckB_ix,q7,q6,q8,ckB_mk,ckB_ne,bif_lt,qa,bif_le,qd,bif_eq,q9,bif_ne,qc,qb,q5,q4,bnd_ok,lk_inl,lk_inr,Int.toNat_natCast,decide_true]
    unfold q4h
    rw [hL,bnd_ok,qbp]
  unfold q4a
  rw [hI,bnd_ok]
  unfold idxI
  cases hf:fidx (memB a) out with
  | none =>
    have:out.filter (fun p=>!memB a p)=out:=List.filter_eq_self.2 fun x hx=>by rw [qoa hf x hx]; rfl
    rw [this]
    rfl
  | some k =>
    obtain ⟨k1,k2,k3⟩:=qst 0 hf
    have hne:decide ((k:Int)=-1)=false:=decide_eq_false (by omega)
    have hin:inR .i64 ((k:Int) + 1)=true:=qgx (by omega) (by omega)
    simp only [hne,hin,cond_false,qcm]
    have hpre:(out.take (k + 1)).filter (fun p=>!memB a p)=out.take k:=by
      rw [q2i out k 0 k1,List.filter_append]
      have e1:(out.take k).filter (fun p=>!memB a p)=out.take k:=List.filter_eq_self.2 fun x hx=>by
        obtain ⟨j,hj,rfl⟩:=qq9 0 hx
        have hj':j < k:=by simp at hj; omega
        have e2:(out.take k).getD j 0=out.getD j 0:=by simp [List.getD_eq_getElem?_getD,List.getElem?_take,hj']
        rw [e2,k3 j hj']
        rfl
      rw [e1,filt_f (p:=fun p=>!memB a p) (by rw [k2]; rfl),List.append_nil]
    have hloop:∃ o,qao a ((k:Int),(k:Int) + 1,out)=some o ∧ ∃ (i:Nat) (s:List Int),o=.inl ((i:Int),s) ∧ s.length=out.length ∧ i ≤ out.length ∧ s.take i=out.filter fun p=>!memB a p:=by
      refine q44 (fun (st:Int × Int × List Int)=>∃ i j:Nat,st.1=(i:Int) ∧ st.2.1=(j:Int) ∧ i < j ∧ j ≤ out.length ∧ st.2.2.length=out.length ∧ st.2.2.take i=(out.take j).filter (fun p=>!memB a p) ∧ ∀ m,j ≤ m → st.2.2.getD m 0=out.getD m 0) (fun st=>((out.length:Int) - st.2.1).toNat)
        (fun (o:(Int × List Int) ⊕ List Int)=>∃ (i:Nat) (s:List Int),o=.inl ((i:Int),s) ∧ s.length=out.length ∧ i ≤ out.length ∧ s.take i=out.filter fun p=>!memB a p) _ ⟨k,k + 1,rfl,qh k,by omega,by omega,rfl,hpre.symm,fun _ _=>rfl⟩ (by show ((out.length:Int) - ((k:Int) + 1)).toNat < many; unfold many; omega) ?_
      rintro ⟨_,_,s⟩ ⟨i,j,rfl,rfl,hij,hj,hsl,hst,hrest⟩
      have hsl:s.length=out.length:=hsl
      have hst:s.take i=(out.take j).filter (fun p=>!memB a p):=hst
      have hrest:∀ m,j ≤ m → s.getD m 0=out.getD m 0:=hrest
      by_cases hlt:j < out.length
      · have hsj:=hrest j (Nat.le_refl j)
        cases hm:memB a (out.getD j 0) with
        | true =>
          refine ⟨.next ((i:Int),((j + 1:Nat):Int),s),?_,⟨i,j + 1,rfl,rfl,by omega,by omega,hsl,?_,fun m hm=>hrest m (by omega)⟩,by show ((out.length:Int) - ((j + 1:Nat):Int)).toNat < ((out.length:Int) - (j:Int)).toNat; omega⟩
          · simp only [q1y,Int.toNat_natCast,hsj,hg,hm,hsl]
            simp (disch:=omega) only [ckB_ix,q7,q6,q8,ckB_mk,ckB_ne,bif_lt,qa,bif_le,qd,bif_eq,q9,bif_ne,qc,qb,q5,q4,bnd_ok,lk_inl,lk_inr,Int.toNat_natCast,decide_true]
            rw [qh]
          · show s.take i=_
            rw [hst,q2i out j 0 hlt,List.filter_append,filt_f (p:=fun p=>!memB a p) (by rw [hm]; rfl),List.append_nil]
        | false =>
          refine ⟨.next (((i + 1:Nat):Int),((j + 1:Nat):Int),s.set i (out.getD j 0)),?_,⟨i + 1,j + 1,rfl,rfl,by omega,by omega,by rw [List.length_set]; exact hsl,?_,fun m hm=>?_⟩,by show ((out.length:Int) - ((j + 1:Nat):Int)).toNat < ((out.length:Int) - (j:Int)).toNat; omega⟩
          · simp only [q1y,Int.toNat_natCast,hsj,hg,hm,hsl]
            simp (disch:=omega) only [ckB_ix,q7,q6,q8,ckB_mk,ckB_ne,bif_lt,qa,bif_le,qd,bif_eq,q9,bif_ne,qc,qb,q5,q4,bnd_ok,lk_inl,lk_inr,Int.toNat_natCast,decide_true]
            rw [qh,qh]
          · show (s.set i (out.getD j 0)).take (i + 1)=_
            rw [q2i _ i 0 (by rw [List.length_set]; omega),List.take_set_of_le (Nat.le_refl i),hst,q2i out j 0 hlt,List.filter_append]
            have e1:(s.set i (out.getD j 0)).getD i 0=out.getD j 0:=by
              rw [List.getD_eq_getElem?_getD,List.getElem?_set_self (by omega)]; rfl
            rw [e1,filt_t (p:=fun p=>!memB a p) (by rw [hm]; rfl)]
          · show (s.set i (out.getD j 0)).getD m 0=_
            rw [← hrest m (by omega),List.getD_eq_getElem?_getD,List.getElem?_set_ne (by omega),← List.getD_eq_getElem?_getD]
      · obtain rfl:j=out.length:=by omega
        refine ⟨.done ((i:Int),s),?_,i,s,rfl,hsl,by omega,by rw [hst,List.take_length]⟩
        simp only [q1y,hsl]
        simp (disch:=omega) only [ckB_ix,q7,q6,q8,ckB_mk,ckB_ne,bif_lt,qa,bif_le,qd,bif_eq,q9,bif_ne,qc,qb,q5,q4,bnd_ok,lk_inl,lk_inr,Int.toNat_natCast,decide_true]
    obtain ⟨_,ho,i,s,rfl,hsl,hi,hst⟩:=hloop
    rw [ho,bnd_ok,lk_inl]
    simp only [Int.toNat_natCast,List.drop_zero,Int.toNat_zero,Nat.sub_zero]
    have hlen:(copyL s i (s.length - i) (List.replicate (s.length - i) (0:Int))).length=s.length:=by
      unfold copyL
      simp
      omega
    rw [q11v s i _ _ (by omega),hst,hlen]
    simp (disch:=omega) only [ckB_ix,q7,q6,q8,ckB_mk,ckB_ne,bif_lt,qa,bif_le,qd,bif_eq,q9,bif_ne,qc,qb,q5,q4,bnd_ok,lk_inl,lk_inr,Int.toNat_natCast,decide_true]
def stepB (trap:Bool) (out:List Int) (t:Trans):List Int:=bif meetB (endB t trap) out then out else out.filter fun p=>!memB (endA t trap) p
theorem qse (trap:Bool) (out:List Int) (t:Trans):(stepB trap out t).Sublist out:=by
  unfold stepB
  cases meetB (endB t trap) out
  · exact List.filter_sublist
  · exact List.Sublist.refl _
def passB (trap:Bool) (ts:List Trans) (out:List Int):List Int:=ts.foldl (stepB trap) out
theorem qo3 (trap:Bool):∀ (ts:List Trans) (out:List Int),(passB trap ts out).Sublist out
  | [], out => List.Sublist.refl _
  | t :: ts, out => (qo3 trap ts _).trans (qse trap out t)
theorem q10d {ts:List Trans} {trap:Bool} {l out:List Int} (h:Holds ts trap l out) {t:Trans} (ht:t ∈ ts):Holds ts trap l (stepB trap out t):=by
  unfold stepB
  cases hm:meetB (endB t trap) out with
  | true => exact h
  | false =>
    refine qyt h fun W hW hl x hx=>?_
    cases hx2:memB (endA t trap) x with
    | false => rfl
    | true =>
      obtain ⟨p,hp1,hp2⟩:=qlt.1 hW t ht ⟨x,q8g.1 hx2,hx⟩
      have:=q8t.2 ⟨p,hp1,hl p hp2⟩
      rw [hm] at this
      cases this
theorem qts {ts:List Trans} {trap:Bool} {l:List Int}:∀ (r:List Trans),(∀ t ∈ r,t ∈ ts) → ∀ out,Holds ts trap l out → Holds ts trap l (passB trap r out)
  | [], _, out, h => h
  | t :: r, hr, out, h => qts r (fun t ht=>hr t (List.mem_cons_of_mem _ ht)) _ (q10d h (hr t List.mem_cons_self))
theorem qw1 {trap:Bool}:∀ (ts:List Trans) (out0 out:List Int),out.Sublist out0 → (∃ t ∈ ts,openT trap out0 t=true) → (passB trap ts out).length < out0.length
  | [], _, _, _, ⟨t, ht, _⟩ => by cases ht
  | t :: ts, out0, out, hs, ⟨u, hu, hop⟩ => by
    rcases List.mem_cons.1 hu with rfl | hu
    · unfold openT at hop
      rw [Bool.and_eq_true,Bool.not_eq_true'] at hop
      obtain ⟨p,hp1,hp2⟩:=q8t.1 hop.1
      have hs2:(passB trap ts (stepB trap out u)).Sublist out0:=((qo3 trap ts _).trans (qse trap out u)).trans hs
      have hno:p ∉ stepB trap out u:=by
        have hm:meetB (endB u trap) out=false:=by
          cases hm:meetB (endB u trap) out with
          | false => rfl
          | true =>
            obtain ⟨q,hq1,hq2⟩:=q8t.1 hm
            have:=q8t.2 ⟨q,hq1,hs.subset hq2⟩
            rw [hop.2] at this
            cases this
        unfold stepB
        rw [hm]
        intro hc
        have:=(List.mem_filter.1 hc).2
        rw [q8g.2 hp1] at this
        cases this
      have hle:=hs2.length_le
      rcases Nat.lt_or_ge (passB trap ts (stepB trap out u)).length out0.length with h | h
      · exact h
      · have e:=hs2.eq_of_length (by omega)
        rw [← e] at hp2
        exact absurd ((qo3 trap ts _).subset hp2) hno
    · exact qw1 ts out0 _ ((qse trap out t).trans hs) ⟨u,hu,hop⟩
theorem qtq {n:Net} (h:SmallT n.2.1) (l:List Int) (hl:l.length ≤ 1000000) (trap:Bool):∃ G,q84 n l trap=some G ∧ Great n.2.1 trap l G:=by
  have htr:=h.trans
  have hL0:∀ out:List Int,out.length ≤ 1000000 → ql5 trap n.2.1 (n.2.1.length:Int) n.1 n.2.1 n.2.2.1 n.2.2.2.1 (0,out)=some (.inl (passB trap n.2.1 out)):=fun out ho=>by
    have e:passB trap n.2.1 out=passB trap (n.2.1.take n.2.1.length) out:=by rw [List.take_length]
    rw [e]
    refine qa0 (fun i:Nat=>((i:Int),passB trap (n.2.1.take i) out)) n.2.1.length (q4i (by omega)) _ (fun i hi=>?_) ?_ _ rfl
    · have h1:=h.a (qx Trans.z hi) trap
      have h2:=h.b (qx Trans.z hi) trap
      have h3:=(qo3 trap (n.2.1.take i) out).length_le
      have e1:=quq (endB (n.2.1.getD i Trans.z) trap) (passB trap (n.2.1.take i) out) (by omega) (by omega)
      have e2:=qy1 (endA (n.2.1.getD i Trans.z) trap) (passB trap (n.2.1.take i) out) (by omega) (by omega)
      have e3:passB trap (n.2.1.take (i + 1)) out=stepB trap (passB trap (n.2.1.take i) out) (n.2.1.getD i Trans.z):=by
        rw [q2i n.2.1 i Trans.z hi]
        unfold passB
        rw [List.foldl_append]
        rfl
      rw [e3]
      unfold stepB
      simp (disch:=omega) only [qau,q118,e1,e2,ckB_ix,q7,q6,q8,ckB_mk,ckB_ne,bif_lt,qa,bif_le,qd,bif_eq,q9,bif_ne,qc,qb,q5,q4,bnd_ok,lk_inl,lk_inr,Int.toNat_natCast,decide_true]
      rw [qh]
      cases meetB (endB (n.2.1.getD i Trans.z) trap) (passB trap (n.2.1.take i) out) <;> rfl
    · simp (disch:=omega) only [qau,ckB_ix,q7,q6,q8,ckB_mk,ckB_ne,bif_lt,qa,bif_le,qd,bif_eq,q9,bif_ne,qc,qb,q5,q4,bnd_ok,lk_inl,lk_inr,Int.toNat_natCast,decide_true]
  have hC:q1b l=some l:=by
    unfold q1b q4p
    simp (disch:=omega) only [List.nil_append,ckB_ix,q7,q6,q8,ckB_mk,ckB_ne,bif_lt,qa,bif_le,qd,bif_eq,q9,bif_ne,qc,qb,q5,q4,bnd_ok,lk_inl,lk_inr,Int.toNat_natCast,decide_true]
  have hL1:∃ o,qkw trap n.1 n.2.1 n.2.2.1 n.2.2.2.1 l=some o ∧ ∃ G,o=.inl G ∧ Great n.2.1 trap l G:=by
    refine q44 (fun (out:List Int)=>Holds n.2.1 trap l out) (fun out=>out.length) (fun (o:List Int ⊕ List Int)=>∃ G,o=.inl G ∧ Great n.2.1 trap l G) l (q11s _ _ _) (q4i (by omega)) ?_
    intro out hh
    have hol:out.length ≤ l.length:=by
      obtain ⟨⟨p,rfl⟩,_⟩:=hh
      exact List.length_filter_le _ _
    have e:((n.1,n.2.1,n.2.2.1,n.2.2.2.1,()):Net)=n:=rfl
    have e1:=qxs h out (by omega) trap
    cases hc:qen n.2.1 trap out with
    | true =>
      rw [hc] at e1
      exact ⟨.done out,by simp (disch:=omega) only [qah,e,e1,ckB_ix,q7,q6,q8,ckB_mk,ckB_ne,bif_lt,qa,bif_le,qd,bif_eq,q9,bif_ne,qc,qb,q5,q4,bnd_ok,lk_inl,lk_inr,Int.toNat_natCast,decide_true],out,rfl,hh,hc⟩
    | false =>
      rw [hc] at e1
      refine ⟨.next (passB trap n.2.1 out),by simp (disch:=omega) only [qah,e,e1,hL0 out (by omega),ckB_ix,q7,q6,q8,ckB_mk,ckB_ne,bif_lt,qa,bif_le,qd,bif_eq,q9,bif_ne,qc,qb,q5,q4,bnd_ok,lk_inl,lk_inr,Int.toNat_natCast,decide_true],qts n.2.1 (fun _ h=>h) out hh,?_⟩
      unfold qen at hc
      simp only [Bool.not_eq_false'] at hc
      obtain ⟨t,ht,hop⟩:=List.any_eq_true.1 hc
      exact qw1 n.2.1 out out (List.Sublist.refl _) ⟨t,ht,hop⟩
  obtain ⟨_,ho,G,rfl,hG⟩:=hL1
  refine ⟨G,?_,hG⟩
  unfold q84
  rw [hC,bnd_ok,ho,bnd_ok,lk_inl]
  cases G with
  | nil => rfl
  | cons x G =>
    have:decide ((((x :: G).length:Nat):Int)=0)=false:=decide_eq_false (by simp only [List.length_cons]; omega)
    rw [this]
    rfl
end Go.Proofs.Ytjhojmninmipcaa
