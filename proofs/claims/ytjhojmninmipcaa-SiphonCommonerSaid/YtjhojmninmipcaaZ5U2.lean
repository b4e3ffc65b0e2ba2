/-
  Siphon: the greatest siphon, or trap, in a set; the law SiphonForms.
-/
import Derived.Test.YtjhojmninmipcaaZ5U1
set_option linter.all false
namespace Go.Proofs.Ytjhojmninmipcaa
open Go.K Go.M
def endA (t:Trans) (trap:Bool):List Int:=bif trap then t.2.1 else t.2.2.1
def endB (t:Trans) (trap:Bool):List Int:=bif trap then t.2.2.1 else t.2.1
theorem q13a (t:Trans) (trap:Bool):qek t trap=some (endA t trap,endB t trap):=by
  unfold qek endA endB
  cases trap <;> rfl
def openT (trap:Bool) (l:List Int) (t:Trans):Bool:=meetB (endA t trap) l && !meetB (endB t trap) l
def q7i (ts:List Trans) (trap:Bool) (l:List Int):Bool:=!ts.any (openT trap l)
structure SmallT (ts:List Trans):Prop where
  trans:ts.length ≤ 100
  ins:∀ t ∈ ts,t.2.1.length ≤ 50
  outs:∀ t ∈ ts,t.2.2.1.length ≤ 50
theorem Small.T {n:Net} (h:Small n):SmallT n.2.1:=⟨h.trans,h.ins,h.outs⟩
theorem SmallT.a {ts:List Trans} (h:SmallT ts) {t:Trans} (ht:t ∈ ts) (trap:Bool):(endA t trap).length ≤ 50:=by
  cases trap
  · exact h.outs t ht
  · exact h.ins t ht
theorem SmallT.b {ts:List Trans} (h:SmallT ts) {t:Trans} (ht:t ∈ ts) (trap:Bool):(endB t trap).length ≤ 50:=by
  cases trap
  · exact h.ins t ht
  · exact h.outs t ht
theorem q15x {n:Net} (h:SmallT n.2.1) (l:List Int) (hl:l.length ≤ 1000000) (trap:Bool):qc6 n l trap=some (q7i n.2.1 trap l):=by
  have hL:q5b n.2.1 trap l (n.2.1.length:Int) 0=some (fOut (fun i=>(i:Int)) (fidx (openT trap l) n.2.1)):=by
    have:=h.trans
    refine q74 n.2.1 Trans.z (openT trap l) (fun i=>(i:Int)) (by omega) (fun i hi=>?_) ?_
    · have h1:=h.a (qr Trans.z hi) trap
      have h2:=h.b (qr Trans.z hi) trap
      have e:qco (n.2.1.getD i Trans.z) trap l=some (openT trap l (n.2.1.getD i Trans.z)):=by
        unfold qco openT
        rw [q13a]
        simp only [bnd_ok]
        rw [qwb _ _ (by omega) hl,qwb _ _ (by omega) hl]
        simp only [bnd_ok]
        rw [show ix 0 1=true from rfl]
        cases meetB (endA (n.2.1.getD i Trans.z) trap) l <;> rfl
      simp (disch:=omega) only [q1h,e,ckB_ix,q7,q6,qa,ckB_mk,ckB_ne,bif_lt,q8,bif_le,qb,bif_eq,qc,bif_ne,qd,q9,q5,q4,bnd_ok,lk_inl,lk_inr,Int.toNat_natCast,decide_true]
      rw [qg]
      exact qwj
    · simp (disch:=omega) only [q1h,ckB_ix,q7,q6,qa,ckB_mk,ckB_ne,bif_lt,q8,bif_le,qb,bif_eq,qc,bif_ne,qd,q9,q5,q4,bnd_ok,lk_inl,lk_inr,Int.toNat_natCast,decide_true]
  unfold qc6 q2g q2z q7i
  rw [hL,bnd_ok,qg9,bnd_ok,bnd_ok,qiw]
theorem qq1 {n:Net} (h:SmallT n.2.1) (l:List Int) (hl:l.length ≤ 1000000):q87 n l=some (q7i n.2.1 false l):=by
  have hL:qmi l n.1 n.2.1 n.2.2.1 n.2.2.2.1 0=some (bif n.2.1.any (openT false l) then .inr false else .inl ()):=by
    have:=h.trans
    refine qbu n.2.1 Trans.z (openT false l) false (by omega) (fun i hi=>?_) ?_
    · have h1:=h.ins _ (qr Trans.z hi)
      have h2:=h.outs _ (qr Trans.z hi)
      have e1:=qtz (n.2.1.getD i Trans.z).2.2.1 l (by omega) hl
      have e2:=qtz (n.2.1.getD i Trans.z).2.1 l (by omega) hl
      unfold openT endA endB
      simp (disch:=omega) only [qao,e1,e2,ckB_ix,q7,q6,qa,ckB_mk,ckB_ne,bif_lt,q8,bif_le,qb,bif_eq,qc,bif_ne,qd,q9,q5,q4,bnd_ok,lk_inl,lk_inr,Int.toNat_natCast,decide_true]
      rw [qg]
      cases meetB (n.2.1.getD i Trans.z).2.2.1 l <;> cases meetB (n.2.1.getD i Trans.z).2.1 l <;> rfl
    · simp (disch:=omega) only [qao,ckB_ix,q7,q6,qa,ckB_mk,ckB_ne,bif_lt,q8,bif_le,qb,bif_eq,qc,bif_ne,qd,q9,q5,q4,bnd_ok,lk_inl,lk_inr,Int.toNat_natCast,decide_true]
  unfold q87 q7i
  rw [hL,bnd_ok]
  cases n.2.1.any (openT false l) <;> rfl
def revT (t:Trans):Trans:=(t.1,t.2.2.1,t.2.1,())
def revN (n:Net):Net:=(n.1,n.2.1.map revT,n.2.2.2.1,n.2.2.1,())
theorem q15w {ts:List Trans} (h:SmallT ts):SmallT (ts.map revT):=by
  refine ⟨by rw [List.length_map]; exact h.trans,fun t ht=>?_,fun t ht=>?_⟩
  · obtain ⟨u,hu,rfl⟩:=List.mem_map.1 ht; exact h.outs u hu
  · obtain ⟨u,hu,rfl⟩:=List.mem_map.1 ht; exact h.ins u hu
theorem qxx (ts:List Trans) (l:List Int):q7i (ts.map revT) false l=q7i ts true l:=by
  unfold q7i
  rw [List.any_map]
  rfl
theorem q14p {n:Net} (h:SmallT n.2.1):qew n=some (revN n):=by
  have hL:qoi n.1 n.2.1 n.2.2.1 n.2.2.2.1 0 [] 0 0 n.1 n.2.2.2.1 n.2.2.1 (0,[])=some (.inl (n.2.1.map revT)):=by
    have:=h.trans
    refine q7l (fun i:Nat=>((i:Int),(n.2.1.take i).map revT)) n.2.1.length (q3l (by omega)) _ (fun i hi=>?_) ?_ _ rfl
    · have h1:=h.ins _ (qr Trans.z hi)
      have h2:=h.outs _ (qr Trans.z hi)
      have hl:((n.2.1.take i).map revT).length=i:=by rw [List.length_map,List.length_take]; omega
      simp only [qbr,hl,List.nil_append]
      simp (disch:=omega) only [ckB_ix,q7,q6,qa,ckB_mk,ckB_ne,bif_lt,q8,bif_le,qb,bif_eq,qc,bif_ne,qd,q9,q5,q4,bnd_ok,lk_inl,lk_inr,Int.toNat_natCast,decide_true]
      rw [qg,q1w n.2.1 i Trans.z hi,List.map_append]
      rfl
    · simp only [qbr,List.take_length]
      simp (disch:=omega) only [ckB_ix,q7,q6,qa,ckB_mk,ckB_ne,bif_lt,q8,bif_le,qb,bif_eq,qc,bif_ne,qd,q9,q5,q4,bnd_ok,lk_inl,lk_inr,Int.toNat_natCast,decide_true]
  unfold qew
  rw [hL,bnd_ok]
  rfl
def Closed (ts:List Trans) (trap:Bool) (W:List Int):Prop:=q7i ts trap W=true
theorem q5t {a b:List Int}:meetB a b=true ↔ ∃ p,p ∈ a ∧ p ∈ b:=by
  unfold meetB
  rw [List.any_eq_true]
  constructor
  · rintro ⟨p,hp,h⟩; exact ⟨p,hp,q6n.1 h⟩
  · rintro ⟨p,hp,h⟩; exact ⟨p,hp,q6n.2 h⟩
theorem qli {ts:List Trans} {trap:Bool} {W:List Int}:Closed ts trap W ↔ ∀ t ∈ ts,(∃ p,p ∈ endA t trap ∧ p ∈ W) → ∃ p,p ∈ endB t trap ∧ p ∈ W:=by
  unfold Closed q7i
  rw [Bool.not_eq_true',List.any_eq_false]
  constructor
  · intro h t ht hA
    have:=h t ht
    unfold openT at this
    rw [Bool.and_eq_true,Bool.not_eq_true',not_and] at this
    have h2:=this (q5t.2 hA)
    exact q5t.1 (by simpa using h2)
  · intro h t ht hc
    unfold openT at hc
    rw [Bool.and_eq_true,Bool.not_eq_true'] at hc
    have:=q5t.2 (h t ht (q5t.1 hc.1))
    rw [hc.2] at this
    cases this
def Holds (ts:List Trans) (trap:Bool) (l out:List Int):Prop:=(∃ p:Int → Bool,out=l.filter p) ∧ ∀ W,Closed ts trap W → (∀ x ∈ W,x ∈ l) → ∀ x ∈ W,x ∈ out
def Great (ts:List Trans) (trap:Bool) (l out:List Int):Prop:=Holds ts trap l out ∧ Closed ts trap out
theorem q11u {ts:List Trans} {trap:Bool} {l a b:List Int} (ha:Great ts trap l a) (hb:Great ts trap l b):a=b:=by
  obtain ⟨⟨⟨p,rfl⟩,ha2⟩,ha3⟩:=ha
  obtain ⟨⟨⟨q,rfl⟩,hb2⟩,hb3⟩:=hb
  refine List.filter_congr fun x hx=>?_
  have h1:=fun h=>hb2 _ ha3 (fun y hy=>(List.mem_filter.1 hy).1) x (List.mem_filter.2 ⟨hx,h⟩)
  have h2:=fun h=>ha2 _ hb3 (fun y hy=>(List.mem_filter.1 hy).1) x (List.mem_filter.2 ⟨hx,h⟩)
  rw [Bool.eq_iff_iff]
  exact ⟨fun h=>(List.mem_filter.1 (h1 h)).2,fun h=>(List.mem_filter.1 (h2 h)).2⟩
theorem qx1 (ts:List Trans) (trap:Bool) (l:List Int):Holds ts trap l l:=⟨⟨fun _=>true,(List.filter_eq_self.2 fun _ _=>rfl).symm⟩,fun W _ h=>h⟩
theorem qtk {ts:List Trans} {trap:Bool} {l out:List Int} (h:Holds ts trap l out) {p:Int → Bool} (hp:∀ W,Closed ts trap W → (∀ x ∈ W,x ∈ out) → ∀ x ∈ W,p x=true):Holds ts trap l (out.filter p):=by
  obtain ⟨⟨q,rfl⟩,h2⟩:=h
  refine ⟨⟨fun x=>p x && q x,by rw [List.filter_filter]⟩,fun W hW hl x hx=>List.mem_filter.2 ⟨h2 W hW hl x hx,hp W hW (h2 W hW hl) x hx⟩⟩
theorem filt_f {α:Type} {p:α → Bool} {x:α} (h:p x=false):[x].filter p=[]:=by rw [List.filter_cons,h]; rfl
theorem filt_t {α:Type} {p:α → Bool} {x:α} (h:p x=true):[x].filter p=[x]:=by rw [List.filter_cons,h]; rfl
theorem q14g {α:Type} (xs:List α) (off n:Nat) (ys:List α) (h:off ≤ xs.length):(copyL xs off n ys).take off=xs.take off:=by
  unfold copyL
  have hl:(xs.take off).length=off:=by rw [List.length_take]; omega
  rw [List.take_append_of_le_length (by omega),List.take_take,Nat.min_self]
theorem q108 (a out:List Int) (ha:a.length ≤ 1000000) (ho:out.length ≤ 1000000):q40 a out=some (out.filter fun p=>!memB a p):=by
  have hg:∀ p,q7u p a=some (memB a p):=fun p=>by
    unfold q7u
    rw [qv2 a ha]
    rfl
  have hI:q48 out a=some (idxI (memB a) out):=by
    have hL:qac out a (out.length:Int) 0=some (fOut (fun i=>(i:Int)) (fidx (memB a) out)):=by
      refine q74 out 0 (memB a) (fun i=>(i:Int)) (by omega) (fun i hi=>?_) ?_
      · simp (disch:=omega) only [q3d,hg,ckB_ix,q7,q6,qa,ckB_mk,ckB_ne,bif_lt,q8,bif_le,qb,bif_eq,qc,bif_ne,qd,q9,q5,q4,bnd_ok,lk_inl,lk_inr,Int.toNat_natCast,decide_true]
        rw [qg]
        exact qwj
      · simp (disch:=omega) only [q3d,ckB_ix,q7,q6,qa,ckB_mk,ckB_ne,bif_lt,q8,bif_le,qb,bif_eq,qc,bif_ne,qd,q9,q5,q4,bnd_ok,lk_inl,lk_inr,Int.toNat_natCast,decide_true]
    unfold q48
    rw [hL,bnd_ok,qg9]
  unfold q40
  rw [hI,bnd_ok]
  unfold idxI
  cases hf:fidx (memB a) out with
  | none =>
    have:out.filter (fun p=>!memB a p)=out:=List.filter_eq_self.2 fun x hx=>by rw [qt0 hf x hx]; rfl
    rw [this]
    rfl
  | some k =>
    obtain ⟨k1,k2,k3⟩:=qte 0 hf
    have hne:decide ((k:Int)=-1)=false:=decide_eq_false (by omega)
    have hin:inR .i64 ((k:Int) + 1)=true:=qg1 (by omega) (by omega)
    simp only [hne,hin,cond_false,qbo]
    have hpre:(out.take (k + 1)).filter (fun p=>!memB a p)=out.take k:=by
      rw [q1w out k 0 k1,List.filter_append]
      have e1:(out.take k).filter (fun p=>!memB a p)=out.take k:=List.filter_eq_self.2 fun x hx=>by
        obtain ⟨j,hj,rfl⟩:=qiq 0 hx
        have hj':j < k:=by simp at hj; omega
        have e2:(out.take k).getD j 0=out.getD j 0:=by simp [List.getD_eq_getElem?_getD,List.getElem?_take,hj']
        rw [e2,k3 j hj']
        rfl
      rw [e1,filt_f (p:=fun p=>!memB a p) (by rw [k2]; rfl),List.append_nil]
    have hloop:∃ o,q9f a ((k:Int),(k:Int) + 1,out)=some o ∧ ∃ (i:Nat) (s:List Int),o=.inl ((i:Int),s) ∧ s.length=out.length ∧ i ≤ out.length ∧ s.take i=out.filter fun p=>!memB a p:=by
      refine q22 (fun (st:Int × Int × List Int)=>∃ i j:Nat,st.1=(i:Int) ∧ st.2.1=(j:Int) ∧ i < j ∧ j ≤ out.length ∧ st.2.2.length=out.length ∧ st.2.2.take i=(out.take j).filter (fun p=>!memB a p) ∧ ∀ m,j ≤ m → st.2.2.getD m 0=out.getD m 0) (fun st=>((out.length:Int) - st.2.1).toNat)
        (fun (o:(Int × List Int) ⊕ List Int)=>∃ (i:Nat) (s:List Int),o=.inl ((i:Int),s) ∧ s.length=out.length ∧ i ≤ out.length ∧ s.take i=out.filter fun p=>!memB a p) _ ⟨k,k + 1,rfl,qg k,by omega,by omega,rfl,hpre.symm,fun _ _=>rfl⟩ (by show ((out.length:Int) - ((k:Int) + 1)).toNat < many; unfold many; omega) ?_
      rintro ⟨_,_,s⟩ ⟨i,j,rfl,rfl,hij,hj,hsl,hst,hrest⟩
      have hsl:s.length=out.length:=hsl
      have hst:s.take i=(out.take j).filter (fun p=>!memB a p):=hst
      have hrest:∀ m,j ≤ m → s.getD m 0=out.getD m 0:=hrest
      by_cases hlt:j < out.length
      · have hsj:=hrest j (Nat.le_refl j)
        cases hm:memB a (out.getD j 0) with
        | true =>
          refine ⟨.next ((i:Int),((j + 1:Nat):Int),s),?_,⟨i,j + 1,rfl,rfl,by omega,by omega,hsl,?_,fun m hm=>hrest m (by omega)⟩,by show ((out.length:Int) - ((j + 1:Nat):Int)).toNat < ((out.length:Int) - (j:Int)).toNat; omega⟩
          · simp only [q1t,Int.toNat_natCast,hsj,hg,hm,hsl]
            simp (disch:=omega) only [ckB_ix,q7,q6,qa,ckB_mk,ckB_ne,bif_lt,q8,bif_le,qb,bif_eq,qc,bif_ne,qd,q9,q5,q4,bnd_ok,lk_inl,lk_inr,Int.toNat_natCast,decide_true]
            rw [qg]
          · show s.take i=_
            rw [hst,q1w out j 0 hlt,List.filter_append,filt_f (p:=fun p=>!memB a p) (by rw [hm]; rfl),List.append_nil]
        | false =>
          refine ⟨.next (((i + 1:Nat):Int),((j + 1:Nat):Int),s.set i (out.getD j 0)),?_,⟨i + 1,j + 1,rfl,rfl,by omega,by omega,by rw [List.length_set]; exact hsl,?_,fun m hm=>?_⟩,by show ((out.length:Int) - ((j + 1:Nat):Int)).toNat < ((out.length:Int) - (j:Int)).toNat; omega⟩
          · simp only [q1t,Int.toNat_natCast,hsj,hg,hm,hsl]
            simp (disch:=omega) only [ckB_ix,q7,q6,qa,ckB_mk,ckB_ne,bif_lt,q8,bif_le,qb,bif_eq,qc,bif_ne,qd,q9,q5,q4,bnd_ok,lk_inl,lk_inr,Int.toNat_natCast,decide_true]
            rw [qg,qg]
          · show (s.set i (out.getD j 0)).take (i + 1)=_
            rw [q1w _ i 0 (by rw [List.length_set]; omega),List.take_set_of_le (Nat.le_refl i),hst,q1w out j 0 hlt,List.filter_append]
            have e1:(s.set i (out.getD j 0)).getD i 0=out.getD j 0:=by
              rw [List.getD_eq_getElem?_getD,List.getElem?_set_self (by omega)]; rfl
            rw [e1,filt_t (p:=fun p=>!memB a p) (by rw [hm]; rfl)]
          · show (s.set i (out.getD j 0)).getD m 0=_
            rw [← hrest m (by omega),List.getD_eq_getElem?_getD,List.getElem?_set_ne (by omega),← List.getD_eq_getElem?_getD]
      · obtain rfl:j=out.length:=by omega
        refine ⟨.done ((i:Int),s),?_,i,s,rfl,hsl,by omega,by rw [hst,List.take_length]⟩
        simp only [q1t,hsl]
        simp (disch:=omega) only [ckB_ix,q7,q6,qa,ckB_mk,ckB_ne,bif_lt,q8,bif_le,qb,bif_eq,qc,bif_ne,qd,q9,q5,q4,bnd_ok,lk_inl,lk_inr,Int.toNat_natCast,decide_true]
    obtain ⟨_,ho,i,s,rfl,hsl,hi,hst⟩:=hloop
    rw [ho,bnd_ok,lk_inl]
    simp only [Int.toNat_natCast,List.drop_zero,Int.toNat_zero,Nat.sub_zero]
    have hlen:(copyL s i (s.length - i) (List.replicate (s.length - i) (0:Int))).length=s.length:=by
      unfold copyL
      simp
      omega
    rw [q14g s i _ _ (by omega),hst,hlen]
    simp (disch:=omega) only [ckB_ix,q7,q6,qa,ckB_mk,ckB_ne,bif_lt,q8,bif_le,qb,bif_eq,qc,bif_ne,qd,q9,q5,q4,bnd_ok,lk_inl,lk_inr,Int.toNat_natCast,decide_true]
def stepB (trap:Bool) (out:List Int) (t:Trans):List Int:=bif meetB (endB t trap) out then out else out.filter fun p=>!memB (endA t trap) p
theorem qsu (trap:Bool) (out:List Int) (t:Trans):(stepB trap out t).Sublist out:=by
  unfold stepB
  cases meetB (endB t trap) out
  · exact List.filter_sublist
  · exact List.Sublist.refl _
def passB (trap:Bool) (ts:List Trans) (out:List Int):List Int:=ts.foldl (stepB trap) out
theorem qo1 (trap:Bool):∀ (ts:List Trans) (out:List Int),(passB trap ts out).Sublist out
  | [], out => List.Sublist.refl _
  | t :: ts, out => (qo1 trap ts _).trans (qsu trap out t)
theorem q12p {ts:List Trans} {trap:Bool} {l out:List Int} (h:Holds ts trap l out) {t:Trans} (ht:t ∈ ts):Holds ts trap l (stepB trap out t):=by
  unfold stepB
  cases hm:meetB (endB t trap) out with
  | true => exact h
  | false =>
    refine qtk h fun W hW hl x hx=>?_
    cases hx2:memB (endA t trap) x with
    | false => rfl
    | true =>
      obtain ⟨p,hp1,hp2⟩:=qli.1 hW t ht ⟨x,q6n.1 hx2,hx⟩
      have:=q5t.2 ⟨p,hp1,hl p hp2⟩
      rw [hm] at this
      cases this
theorem qv8 {ts:List Trans} {trap:Bool} {l:List Int}:∀ (r:List Trans),(∀ t ∈ r,t ∈ ts) → ∀ out,Holds ts trap l out → Holds ts trap l (passB trap r out)
  | [], _, out, h => h
  | t :: r, hr, out, h => qv8 r (fun t ht=>hr t (List.mem_cons_of_mem _ ht)) _ (q12p h (hr t List.mem_cons_self))
theorem qxe {trap:Bool}:∀ (ts:List Trans) (out0 out:List Int),out.Sublist out0 → (∃ t ∈ ts,openT trap out0 t=true) → (passB trap ts out).length < out0.length
  | [], _, _, _, ⟨t, ht, _⟩ => by cases ht
  | t :: ts, out0, out, hs, ⟨u, hu, hop⟩ => by
    rcases List.mem_cons.1 hu with rfl | hu
    · unfold openT at hop
      rw [Bool.and_eq_true,Bool.not_eq_true'] at hop
      obtain ⟨p,hp1,hp2⟩:=q5t.1 hop.1
      have hs2:(passB trap ts (stepB trap out u)).Sublist out0:=((qo1 trap ts _).trans (qsu trap out u)).trans hs
      have hno:p ∉ stepB trap out u:=by
        have hm:meetB (endB u trap) out=false:=by
          cases hm:meetB (endB u trap) out with
          | false => rfl
          | true =>
            obtain ⟨q,hq1,hq2⟩:=q5t.1 hm
            have:=q5t.2 ⟨q,hq1,hs.subset hq2⟩
            rw [hop.2] at this
            cases this
        unfold stepB
        rw [hm]
        intro hc
        have:=(List.mem_filter.1 hc).2
        rw [q6n.2 hp1] at this
        cases this
      have hle:=hs2.length_le
      rcases Nat.lt_or_ge (passB trap ts (stepB trap out u)).length out0.length with h | h
      · exact h
      · have e:=hs2.eq_of_length (by omega)
        rw [← e] at hp2
        exact absurd ((qo1 trap ts _).subset hp2) hno
    · exact qxe ts out0 _ ((qsu trap out t).trans hs) ⟨u,hu,hop⟩
theorem qv9 {n:Net} (h:SmallT n.2.1) (l:List Int) (hl:l.length ≤ 1000000) (trap:Bool):∃ G,q7e n l trap=some G ∧ Great n.2.1 trap l G:=by
  have htr:=h.trans
  have hL0:∀ out:List Int,out.length ≤ 1000000 → qkh trap n.2.1 (n.2.1.length:Int) n.1 n.2.1 n.2.2.1 n.2.2.2.1 (0,out)=some (.inl (passB trap n.2.1 out)):=fun out ho=>by
    have e:passB trap n.2.1 out=passB trap (n.2.1.take n.2.1.length) out:=by rw [List.take_length]
    rw [e]
    refine q7l (fun i:Nat=>((i:Int),passB trap (n.2.1.take i) out)) n.2.1.length (q3l (by omega)) _ (fun i hi=>?_) ?_ _ rfl
    · have h1:=h.a (qr Trans.z hi) trap
      have h2:=h.b (qr Trans.z hi) trap
      have h3:=(qo1 trap (n.2.1.take i) out).length_le
      have e1:=qwb (endB (n.2.1.getD i Trans.z) trap) (passB trap (n.2.1.take i) out) (by omega) (by omega)
      have e2:=q108 (endA (n.2.1.getD i Trans.z) trap) (passB trap (n.2.1.take i) out) (by omega) (by omega)
      have e3:passB trap (n.2.1.take (i + 1)) out=stepB trap (passB trap (n.2.1.take i) out) (n.2.1.getD i Trans.z):=by
        rw [q1w n.2.1 i Trans.z hi]
        unfold passB
        rw [List.foldl_append]
        rfl
      rw [e3]
      unfold stepB
      simp (disch:=omega) only [q9o,q13a,e1,e2,ckB_ix,q7,q6,qa,ckB_mk,ckB_ne,bif_lt,q8,bif_le,qb,bif_eq,qc,bif_ne,qd,q9,q5,q4,bnd_ok,lk_inl,lk_inr,Int.toNat_natCast,decide_true]
      rw [qg]
      cases meetB (endB (n.2.1.getD i Trans.z) trap) (passB trap (n.2.1.take i) out) <;> rfl
    · simp (disch:=omega) only [q9o,ckB_ix,q7,q6,qa,ckB_mk,ckB_ne,bif_lt,q8,bif_le,qb,bif_eq,qc,bif_ne,qd,q9,q5,q4,bnd_ok,lk_inl,lk_inr,Int.toNat_natCast,decide_true]
  have hC:q2t l=some l:=by
    unfold q2t q70
    simp (disch:=omega) only [List.nil_append,ckB_ix,q7,q6,qa,ckB_mk,ckB_ne,bif_lt,q8,bif_le,qb,bif_eq,qc,bif_ne,qd,q9,q5,q4,bnd_ok,lk_inl,lk_inr,Int.toNat_natCast,decide_true]
  have hL1:∃ o,ql8 trap n.1 n.2.1 n.2.2.1 n.2.2.2.1 l=some o ∧ ∃ G,o=.inl G ∧ Great n.2.1 trap l G:=by
    refine q22 (fun (out:List Int)=>Holds n.2.1 trap l out) (fun out=>out.length) (fun (o:List Int ⊕ List Int)=>∃ G,o=.inl G ∧ Great n.2.1 trap l G) l (qx1 _ _ _) (q3l (by omega)) ?_
    intro out hh
    have hol:out.length ≤ l.length:=by
      obtain ⟨⟨p,rfl⟩,_⟩:=hh
      exact List.length_filter_le _ _
    have e:((n.1,n.2.1,n.2.2.1,n.2.2.2.1,()):Net)=n:=rfl
    have e1:=q15x h out (by omega) trap
    cases hc:q7i n.2.1 trap out with
    | true =>
      rw [hc] at e1
      exact ⟨.done out,by simp (disch:=omega) only [q9w,e,e1,ckB_ix,q7,q6,qa,ckB_mk,ckB_ne,bif_lt,q8,bif_le,qb,bif_eq,qc,bif_ne,qd,q9,q5,q4,bnd_ok,lk_inl,lk_inr,Int.toNat_natCast,decide_true],out,rfl,hh,hc⟩
    | false =>
      rw [hc] at e1
      refine ⟨.next (passB trap n.2.1 out),by simp (disch:=omega) only [q9w,e,e1,hL0 out (by omega),ckB_ix,q7,q6,qa,ckB_mk,ckB_ne,bif_lt,q8,bif_le,qb,bif_eq,qc,bif_ne,qd,q9,q5,q4,bnd_ok,lk_inl,lk_inr,Int.toNat_natCast,decide_true],qv8 n.2.1 (fun _ h=>h) out hh,?_⟩
      unfold q7i at hc
      simp only [Bool.not_eq_false'] at hc
      obtain ⟨t,ht,hop⟩:=List.any_eq_true.1 hc
      exact qxe n.2.1 out out (List.Sublist.refl _) ⟨t,ht,hop⟩
  obtain ⟨_,ho,G,rfl,hG⟩:=hL1
  refine ⟨G,?_,hG⟩
  unfold q7e
  rw [hC,bnd_ok,ho,bnd_ok,lk_inl]
  cases G with
  | nil => rfl
  | cons x G =>
    have:decide ((((x :: G).length:Nat):Int)=0)=false:=decide_eq_false (by simp only [List.length_cons]; omega)
    rw [this]
    rfl
def okB (ts:List Trans) (out:List Int) (x:Int):Bool:=ts.all fun t=>!memB t.2.2.1 x || meetB t.2.1 out
theorem qu2 {n:Net} (h:SmallT n.2.1) (l:List Int) (hl:l.length ≤ 1000000):∃ G,qbf n l=some G ∧ Great n.2.1 false l G:=by
  have htr:=h.trans
  have hL0:∀ (out kept:List Int) (i:Nat),out.length ≤ 1000000 → i < out.length → qqp out (i:Int) n.1 n.2.1 n.2.2.1 n.2.2.2.1 kept (true,0)=some (.inl (okB n.2.1 out (out.getD i 0))):=fun out kept i ho hi=>by
    have e:okB n.2.1 out (out.getD i 0)=okB (n.2.1.take n.2.1.length) out (out.getD i 0):=by rw [List.take_length]
    rw [e]
    refine q7l (fun t:Nat=>(okB (n.2.1.take t) out (out.getD i 0),(t:Int))) n.2.1.length (q3l (by omega)) _ (fun t ht=>?_) ?_ _ rfl
    · have h1:=h.ins _ (qr Trans.z ht)
      have h2:=h.outs _ (qr Trans.z ht)
      have e1:=Has_eq (n.2.1.getD t Trans.z).2.2.1 (by omega) (out.getD i 0)
      have e2:=qtz (n.2.1.getD t Trans.z).2.1 out (by omega) ho
      have e3:okB (n.2.1.take (t + 1)) out (out.getD i 0)=(okB (n.2.1.take t) out (out.getD i 0) && (!memB (n.2.1.getD t Trans.z).2.2.1 (out.getD i 0) || meetB (n.2.1.getD t Trans.z).2.1 out)):=by
        unfold okB
        rw [q1w n.2.1 t Trans.z ht,List.all_append]
        simp
      rw [e3]
      simp (disch:=omega) only [qcn,e1,e2,ckB_ix,q7,q6,qa,ckB_mk,ckB_ne,bif_lt,q8,bif_le,qb,bif_eq,qc,bif_ne,qd,q9,q5,q4,bnd_ok,lk_inl,lk_inr,Int.toNat_natCast,decide_true]
      rw [qg]
      cases okB (n.2.1.take t) out (out.getD i 0) <;> cases memB (n.2.1.getD t Trans.z).2.2.1 (out.getD i 0) <;> cases meetB (n.2.1.getD t Trans.z).2.1 out <;> rfl
    · simp (disch:=omega) only [qcn,ckB_ix,q7,q6,qa,ckB_mk,ckB_ne,bif_lt,q8,bif_le,qb,bif_eq,qc,bif_ne,qd,q9,q5,q4,bnd_ok,lk_inl,lk_inr,Int.toNat_natCast,decide_true]
  have hL1:∀ out:List Int,out.length ≤ 1000000 → qqr out n.1 n.2.1 n.2.2.1 n.2.2.2.1 (0,[])=some (.inl (out.filter (okB n.2.1 out))):=fun out ho=>by
    have e:out.filter (okB n.2.1 out)=(out.take out.length).filter (okB n.2.1 out):=by rw [List.take_length]
    rw [e]
    refine q7l (fun i:Nat=>((i:Int),(out.take i).filter (okB n.2.1 out))) out.length (q3l (by omega)) _ (fun i hi=>?_) ?_ _ rfl
    · have h3:((out.take i).filter (okB n.2.1 out)).length ≤ i:=Nat.le_trans (List.length_filter_le _ _) (by rw [List.length_take]; omega)
      have e1:=hL0 out ((out.take i).filter (okB n.2.1 out)) i ho hi
      have e3:(out.take (i + 1)).filter (okB n.2.1 out)=(out.take i).filter (okB n.2.1 out) ++ (bif okB n.2.1 out (out.getD i 0) then [out.getD i 0] else []):=by
        rw [q1w out i 0 hi,List.filter_append]
        congr 1
      rw [e3]
      simp (disch:=omega) only [qcs,e1,ckB_ix,q7,q6,qa,ckB_mk,ckB_ne,bif_lt,q8,bif_le,qb,bif_eq,qc,bif_ne,qd,q9,q5,q4,bnd_ok,lk_inl,lk_inr,Int.toNat_natCast,decide_true]
      rw [qg]
      cases okB n.2.1 out (out.getD i 0) with
      | true => rfl
      | false => simp
    · simp (disch:=omega) only [qcs,ckB_ix,q7,q6,qa,ckB_mk,ckB_ne,bif_lt,q8,bif_le,qb,bif_eq,qc,bif_ne,qd,q9,q5,q4,bnd_ok,lk_inl,lk_inr,Int.toNat_natCast,decide_true]
  have hL2:∃ o,qqq n.1 n.2.1 n.2.2.1 n.2.2.2.1 l=some o ∧ ∃ G,o=.inr G ∧ Great n.2.1 false l G:=by
    refine q22 (fun (out:List Int)=>Holds n.2.1 false l out) (fun out=>out.length) (fun (o:Unit ⊕ List Int)=>∃ G,o=.inr G ∧ Great n.2.1 false l G) l (qx1 _ _ _) (q3l (by omega)) ?_
    intro out hh
    have hol:out.length ≤ l.length:=by
      obtain ⟨⟨p,rfl⟩,_⟩:=hh
      exact List.length_filter_le _ _
    have e1:=hL1 out (by omega)
    have hkept:Holds n.2.1 false l (out.filter (okB n.2.1 out)):=by
      refine qtk hh fun W hW hl x hx=>?_
      unfold okB
      rw [List.all_eq_true]
      intro t ht
      cases hm:memB t.2.2.1 x with
      | false => rfl
      | true =>
        obtain ⟨p,hp1,hp2⟩:=qli.1 hW t ht ⟨x,q6n.1 hm,hx⟩
        have:=q5t.2 ⟨p,hp1,hl p hp2⟩
        exact this
    by_cases hlen:(out.filter (okB n.2.1 out)).length=out.length
    · have e:out.filter (okB n.2.1 out)=out:=List.filter_sublist.eq_of_length hlen
      refine ⟨.ret (out.filter (okB n.2.1 out)),?_,_,rfl,hkept,?_⟩
      · have:decide (((out.filter (okB n.2.1 out)).length:Int)=(out.length:Int))=true:=decide_eq_true (by omega)
        simp (disch:=omega) only [qcp,e1,this,ckB_ix,q7,q6,qa,ckB_mk,ckB_ne,bif_lt,q8,bif_le,qb,bif_eq,qc,bif_ne,qd,q9,q5,q4,bnd_ok,lk_inl,lk_inr,Int.toNat_natCast,decide_true]
      · rw [e,qli]
        rintro t ht ⟨p,hp1,hp2⟩
        have hok:=(List.filter_eq_self.1 e) p hp2
        unfold okB at hok
        have:=List.all_eq_true.1 hok t ht
        have hm:memB t.2.2.1 p=true:=q6n.2 hp1
        rw [hm] at this
        have h3:meetB t.2.1 out=true:=by simpa using this
        exact q5t.1 h3
    · have hlt:=List.length_filter_le (okB n.2.1 out) out
      refine ⟨.next (out.filter (okB n.2.1 out)),?_,hkept,by omega⟩
      have:decide (((out.filter (okB n.2.1 out)).length:Int)=(out.length:Int))=false:=decide_eq_false (by omega)
      simp (disch:=omega) only [qcp,e1,this,ckB_ix,q7,q6,qa,ckB_mk,ckB_ne,bif_lt,q8,bif_le,qb,bif_eq,qc,bif_ne,qd,q9,q5,q4,bnd_ok,lk_inl,lk_inr,Int.toNat_natCast,decide_true]
  obtain ⟨_,ho,G,rfl,hG⟩:=hL2
  refine ⟨G,?_,hG⟩
  unfold qbf
  rw [ho,bnd_ok,lk_inr]
theorem q14n {n:Net} (h:SmallT n.2.1) (l:List Int) (hl:l.length ≤ 1000000):∃ G,qdp n l=some G ∧ Great n.2.1 true l G:=by
  obtain ⟨G,h1,h2⟩:=qu2 (n:=revN n) (q15w h) l hl
  refine ⟨G,?_,⟨h2.1.1,fun W hW=>h2.1.2 W ?_⟩,?_⟩
  · unfold qdp
    rw [q14p h,bnd_ok,h1]
    rfl
  · exact (qxx _ _).trans hW
  · exact (qxx _ _).symm.trans h2.2
theorem qxh (l:List Int) (hl:l.length ≤ 1000000):q2u l l=some true:=by
  have hL:qeo l l (l.length:Int) 0=some (.inl ()):=by
    refine q7l (fun i:Nat=>(i:Int)) l.length (q3l (by omega)) _ (fun i hi=>?_) ?_ _ rfl
    · simp only [q66,Int.toNat_natCast]
      simp (disch:=omega) only [ckB_ix,q7,q6,qa,ckB_mk,ckB_ne,bif_lt,q8,bif_le,qb,bif_eq,qc,bif_ne,qd,q9,q5,q4,bnd_ok,lk_inl,lk_inr,Int.toNat_natCast,decide_true]
      simp
    · simp (disch:=omega) only [q66,ckB_ix,q7,q6,qa,ckB_mk,ckB_ne,bif_lt,q8,bif_le,qb,bif_eq,qc,bif_ne,qd,q9,q5,q4,bnd_ok,lk_inl,lk_inr,Int.toNat_natCast,decide_true]
  unfold q2u
  rw [hL]
  simp
end Go.Proofs.Ytjhojmninmipcaa
