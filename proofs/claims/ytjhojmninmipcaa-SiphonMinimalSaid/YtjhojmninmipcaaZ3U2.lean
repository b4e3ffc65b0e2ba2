/-
  Siphon: the greatest siphon, or trap, in a set; the law SiphonForms.
-/
import Derived.Test.YtjhojmninmipcaaZ3U1
set_option linter.all false
namespace Go.Proofs.Ytjhojmninmipcaa
open Go.K Go.M
def endA (t:Trans) (trap:Bool):List Int:=bif trap then t.2.1 else t.2.2.1
def endB (t:Trans) (trap:Bool):List Int:=bif trap then t.2.2.1 else t.2.1
def openT (trap:Bool) (l:List Int) (t:Trans):Bool:=meetB (endA t trap) l && !meetB (endB t trap) l
def qgq (ts:List Trans) (trap:Bool) (l:List Int):Bool:=!ts.any (openT trap l)
structure SmallT (ts:List Trans):Prop where
  trans:ts.length ≤ 100
  ins:∀ t ∈ ts,t.2.1.length ≤ 50
  outs:∀ t ∈ ts,t.2.2.1.length ≤ 50
theorem Small.T {n:Net} (h:Small n):SmallT n.2.1:=⟨h.trans,h.ins,h.outs⟩
theorem SmallT.a {ts:List Trans} (h:SmallT ts) {t:Trans} (ht:t ∈ ts) (trap:Bool):(endA t trap).length ≤ 50:=by
  cases trap
  · exact h.outs t ht
  · exact h.ins t ht
theorem SmallT.b {ts:List Trans} (h:SmallT ts) {t:Trans} (ht:t ∈ ts) (trap:Bool):(endB t trap).length ≤ 50:=by
  cases trap
  · exact h.ins t ht
  · exact h.outs t ht
theorem qmz {n:Net} (h:SmallT n.2.1) (l:List Int) (hl:l.length ≤ 1000000):q73 n l=some (qgq n.2.1 false l):=by
  have hL:qko l n.1 n.2.1 n.2.2.1 n.2.2.2.1 0=some (bif n.2.1.any (openT false l) then .inr false else .inl ()):=by
    have:=h.trans
    refine qf5 n.2.1 Trans.z (openT false l) false (by omega) (fun i hi=>?_) ?_
    · have h1:=h.ins _ (q1c Trans.z hi)
      have h2:=h.outs _ (q1c Trans.z hi)
      have e1:=qr4 (n.2.1.getD i Trans.z).2.2.1 l (by omega) hl
      have e2:=qr4 (n.2.1.getD i Trans.z).2.1 l (by omega) hl
      unfold openT endA endB
      simp (disch:=omega) only [q9g,e1,e2,ckB_ix,q7,q6,q9,ckB_mk,ckB_ne,bif_lt,q8,bif_le,qa,bif_eq,qb,bif_ne,qc,qd,q5,q4,bnd_ok,lk_inl,lk_inr,Int.toNat_natCast,decide_true]
      rw [qk]
      cases meetB (n.2.1.getD i Trans.z).2.2.1 l <;> cases meetB (n.2.1.getD i Trans.z).2.1 l <;> rfl
    · simp (disch:=omega) only [q9g,ckB_ix,q7,q6,q9,ckB_mk,ckB_ne,bif_lt,q8,bif_le,qa,bif_eq,qb,bif_ne,qc,qd,q5,q4,bnd_ok,lk_inl,lk_inr,Int.toNat_natCast,decide_true]
  unfold q73 qgq
  rw [hL,bnd_ok]
  cases n.2.1.any (openT false l) <;> rfl
def Closed (ts:List Trans) (trap:Bool) (W:List Int):Prop:=qgq ts trap W=true
theorem qa9 {a b:List Int}:meetB a b=true ↔ ∃ p,p ∈ a ∧ p ∈ b:=by
  unfold meetB
  rw [List.any_eq_true]
  constructor
  · rintro ⟨p,hp,h⟩; exact ⟨p,hp,q7i.1 h⟩
  · rintro ⟨p,hp,h⟩; exact ⟨p,hp,q7i.2 h⟩
theorem qom {ts:List Trans} {trap:Bool} {W:List Int}:Closed ts trap W ↔ ∀ t ∈ ts,(∃ p,p ∈ endA t trap ∧ p ∈ W) → ∃ p,p ∈ endB t trap ∧ p ∈ W:=by
  unfold Closed qgq
  rw [Bool.not_eq_true',List.any_eq_false]
  constructor
  · intro h t ht hA
    have:=h t ht
    unfold openT at this
    rw [Bool.and_eq_true,Bool.not_eq_true',not_and] at this
    have h2:=this (qa9.2 hA)
    exact qa9.1 (by simpa using h2)
  · intro h t ht hc
    unfold openT at hc
    rw [Bool.and_eq_true,Bool.not_eq_true'] at hc
    have:=qa9.2 (h t ht (qa9.1 hc.1))
    rw [hc.2] at this
    cases this
def Holds (ts:List Trans) (trap:Bool) (l out:List Int):Prop:=(∃ p:Int → Bool,out=l.filter p) ∧ ∀ W,Closed ts trap W → (∀ x ∈ W,x ∈ l) → ∀ x ∈ W,x ∈ out
def Great (ts:List Trans) (trap:Bool) (l out:List Int):Prop:=Holds ts trap l out ∧ Closed ts trap out
theorem q10u (ts:List Trans) (trap:Bool) (l:List Int):Holds ts trap l l:=⟨⟨fun _=>true,(List.filter_eq_self.2 fun _ _=>rfl).symm⟩,fun W _ h=>h⟩
theorem qxg {ts:List Trans} {trap:Bool} {l out:List Int} (h:Holds ts trap l out) {p:Int → Bool} (hp:∀ W,Closed ts trap W → (∀ x ∈ W,x ∈ out) → ∀ x ∈ W,p x=true):Holds ts trap l (out.filter p):=by
  obtain ⟨⟨q,rfl⟩,h2⟩:=h
  refine ⟨⟨fun x=>p x && q x,by rw [List.filter_filter]⟩,fun W hW hl x hx=>List.mem_filter.2 ⟨h2 W hW hl x hx,hp W hW (h2 W hW hl) x hx⟩⟩
def okB (ts:List Trans) (out:List Int) (x:Int):Bool:=ts.all fun t=>!memB t.2.2.1 x || meetB t.2.1 out
theorem qx0 {n:Net} (h:SmallT n.2.1) (l:List Int) (hl:l.length ≤ 1000000):∃ G,qbn n l=some G ∧ Great n.2.1 false l G:=by
  have htr:=h.trans
  have hL0:∀ (out kept:List Int) (i:Nat),out.length ≤ 1000000 → i < out.length → qnj out (i:Int) n.1 n.2.1 n.2.2.1 n.2.2.2.1 kept (true,0)=some (.inl (okB n.2.1 out (out.getD i 0))):=fun out kept i ho hi=>by
    have e:okB n.2.1 out (out.getD i 0)=okB (n.2.1.take n.2.1.length) out (out.getD i 0):=by rw [List.take_length]
    rw [e]
    refine q88 (fun t:Nat=>(okB (n.2.1.take t) out (out.getD i 0),(t:Int))) n.2.1.length (q4l (by omega)) _ (fun t ht=>?_) ?_ _ rfl
    · have h1:=h.ins _ (q1c Trans.z ht)
      have h2:=h.outs _ (q1c Trans.z ht)
      have e1:=Has_eq (n.2.1.getD t Trans.z).2.2.1 (by omega) (out.getD i 0)
      have e2:=qr4 (n.2.1.getD t Trans.z).2.1 out (by omega) ho
      have e3:okB (n.2.1.take (t + 1)) out (out.getD i 0)=(okB (n.2.1.take t) out (out.getD i 0) && (!memB (n.2.1.getD t Trans.z).2.2.1 (out.getD i 0) || meetB (n.2.1.getD t Trans.z).2.1 out)):=by
        unfold okB
        rw [q72 n.2.1 t Trans.z ht,List.all_append]
        simp
      rw [e3]
      simp (disch:=omega) only [qb5,e1,e2,ckB_ix,q7,q6,q9,ckB_mk,ckB_ne,bif_lt,q8,bif_le,qa,bif_eq,qb,bif_ne,qc,qd,q5,q4,bnd_ok,lk_inl,lk_inr,Int.toNat_natCast,decide_true]
      rw [qk]
      cases okB (n.2.1.take t) out (out.getD i 0) <;> cases memB (n.2.1.getD t Trans.z).2.2.1 (out.getD i 0) <;> cases meetB (n.2.1.getD t Trans.z).2.1 out <;> rfl
    · simp (disch:=omega) only [qb5,ckB_ix,q7,q6,q9,ckB_mk,ckB_ne,bif_lt,q8,bif_le,qa,bif_eq,qb,bif_ne,qc,qd,q5,q4,bnd_ok,lk_inl,lk_inr,Int.toNat_natCast,decide_true]
  have hL1:∀ out:List Int,out.length ≤ 1000000 → qnv out n.1 n.2.1 n.2.2.1 n.2.2.2.1 (0,[])=some (.inl (out.filter (okB n.2.1 out))):=fun out ho=>by
    have e:out.filter (okB n.2.1 out)=(out.take out.length).filter (okB n.2.1 out):=by rw [List.take_length]
    rw [e]
    refine q88 (fun i:Nat=>((i:Int),(out.take i).filter (okB n.2.1 out))) out.length (q4l (by omega)) _ (fun i hi=>?_) ?_ _ rfl
    · have h3:((out.take i).filter (okB n.2.1 out)).length ≤ i:=Nat.le_trans (List.length_filter_le _ _) (by rw [List.length_take]; omega)
      have e1:=hL0 out ((out.take i).filter (okB n.2.1 out)) i ho hi
      have e3:(out.take (i + 1)).filter (okB n.2.1 out)=(out.take i).filter (okB n.2.1 out) ++ (bif okB n.2.1 out (out.getD i 0) then [out.getD i 0] else []):=by
        rw [q72 out i 0 hi,List.filter_append]
        congr 1
      rw [e3]
      simp (disch:=omega) only [qb4,e1,ckB_ix,q7,q6,q9,ckB_mk,ckB_ne,bif_lt,q8,bif_le,qa,bif_eq,qb,bif_ne,qc,qd,q5,q4,bnd_ok,lk_inl,lk_inr,Int.toNat_natCast,decide_true]
      rw [qk]
      cases okB n.2.1 out (out.getD i 0) with
      | true => rfl
      | false => simp
    · simp (disch:=omega) only [qb4,ckB_ix,q7,q6,q9,ckB_mk,ckB_ne,bif_lt,q8,bif_le,qa,bif_eq,qb,bif_ne,qc,qd,q5,q4,bnd_ok,lk_inl,lk_inr,Int.toNat_natCast,decide_true]
  have hL2:∃ o,qne n.1 n.2.1 n.2.2.1 n.2.2.2.1 l=some o ∧ ∃ G,o=.inr G ∧ Great n.2.1 false l G:=by
    refine q2n (fun (out:List Int)=>Holds n.2.1 false l out) (fun out=>out.length) (fun (o:Unit ⊕ List Int)=>∃ G,o=.inr G ∧ Great n.2.1 false l G) l (q10u _ _ _) (q4l (by omega)) ?_
    intro out hh
    have hol:out.length ≤ l.length:=by
      obtain ⟨⟨p,rfl⟩,_⟩:=hh
      exact List.length_filter_le _ _
    have e1:=hL1 out (by omega)
    have hkept:Holds n.2.1 false l (out.filter (okB n.2.1 out)):=by
      refine qxg hh fun W hW hl x hx=>?_
      unfold okB
      rw [List.all_eq_true]
      intro t ht
      cases hm:memB t.2.2.1 x with
      | false => rfl
      | true =>
        obtain ⟨p,hp1,hp2⟩:=qom.1 hW t ht ⟨x,q7i.1 hm,hx⟩
        have:=qa9.2 ⟨p,hp1,hl p hp2⟩
        exact this
    by_cases hlen:(out.filter (okB n.2.1 out)).length=out.length
    · have e:out.filter (okB n.2.1 out)=out:=List.filter_sublist.eq_of_length hlen
      refine ⟨.ret (out.filter (okB n.2.1 out)),?_,_,rfl,hkept,?_⟩
      · have:decide (((out.filter (okB n.2.1 out)).length:Int)=(out.length:Int))=true:=decide_eq_true (by omega)
        simp (disch:=omega) only [qb3,e1,this,ckB_ix,q7,q6,q9,ckB_mk,ckB_ne,bif_lt,q8,bif_le,qa,bif_eq,qb,bif_ne,qc,qd,q5,q4,bnd_ok,lk_inl,lk_inr,Int.toNat_natCast,decide_true]
      · rw [e,qom]
        rintro t ht ⟨p,hp1,hp2⟩
        have hok:=(List.filter_eq_self.1 e) p hp2
        unfold okB at hok
        have:=List.all_eq_true.1 hok t ht
        have hm:memB t.2.2.1 p=true:=q7i.2 hp1
        rw [hm] at this
        have h3:meetB t.2.1 out=true:=by simpa using this
        exact qa9.1 h3
    · have hlt:=List.length_filter_le (okB n.2.1 out) out
      refine ⟨.next (out.filter (okB n.2.1 out)),?_,hkept,by omega⟩
      have:decide (((out.filter (okB n.2.1 out)).length:Int)=(out.length:Int))=false:=decide_eq_false (by omega)
      simp (disch:=omega) only [qb3,e1,this,ckB_ix,q7,q6,q9,ckB_mk,ckB_ne,bif_lt,q8,bif_le,qa,bif_eq,qb,bif_ne,qc,qd,q5,q4,bnd_ok,lk_inl,lk_inr,Int.toNat_natCast,decide_true]
  obtain ⟨_,ho,G,rfl,hG⟩:=hL2
  refine ⟨G,?_,hG⟩
  unfold qbn
  rw [ho,bnd_ok,lk_inr]
end Go.Proofs.Ytjhojmninmipcaa
