/-
  Siphon: two searches, one that stops where it meets a set without tokens, one that looks at what it has met.
-/
import Derived.Test.YtjhojmninmipcaaZ4W7
set_option linter.all false
namespace Go.Proofs.Ytjhojmninmipcaa
open Go.K Go.M
abbrev Qs:=List q5
section
variable (n:Net) (l:List Int) (most:Nat) (i:Nat)
def nxt (Q:Qs) (t:Nat):List Int:=(fireP n (Q.getD i q5.z).1 t).2
def isNew (Q:Qs) (t:Nat):Bool:=decide ((fireP n (Q.getD i q5.z).1 t).1=0)&&!(Q.map (·.1)).any fun x=>decide (x=nxt n i Q t)
def ext (Q:Qs) (t:Nat):Qs:=Q++[(nxt n i Q t,(Q.getD i q5.z).2.1++[(t:Int)],())]
def addQ (Q:Qs) (t:Nat):Qs:=if Q.length≤most then (bif isNew n i Q t then ext n i Q t else Q) else Q
def inn:Nat→Nat→Qs→Qs
 | 0, _, Q => Q
 | k + 1, t, Q => inn k (t+1) (addQ n most i Q t)
def mk (Q:Qs) (j:Nat):Bool:=mkdB (Q.getD j q5.z).1 l
def outR:Nat→Nat→Qs→Qs⊕(Int×List Int)
 | 0, _, Q => .inl Q
 | k + 1, i, Q => if i < Q.length then (bif mk l Q i then outR k (i+1) (inn n most i n.2.1.length 0 Q) else .inr (0,(Q.getD i q5.z).2.1)) else .inl Q
def proI:Nat→Nat→Qs→Qs⊕(Int×List Int)
 | 0, _, Q => .inl Q
 | k+1,t,Q =>
   bif isNew n i Q t then
     (if Q.length=most then .inr (13,[]) else bif mkdB (nxt n i Q t) l then proI k (t+1) (ext n i Q t) else .inr (0,(Q.getD i q5.z).2.1++[(t:Int)]))
   else proI k (t+1) Q
def proO:Nat→Nat→Qs→Int×List Int
 | 0, _, _ => (10,[])
 | k + 1, i, Q => if i < Q.length then (match proI n l most i n.2.1.length 0 Q with | .inl Q'=>proO k (i+1) Q' | .inr r=>r) else (10,[])
def outF (most:Nat):Qs⊕(Int×List Int)→Int×List Int
 | .inl Q => if Q.length≤most then (10,[]) else (13,[])
 | .inr r => r
end
theorem qms {most:Nat} {Q:Qs} (h:Q.length≤most):outF most (.inl Q)=(10,[]):=if_pos h
theorem qqe {most:Nat} {Q:Qs} (h:most < Q.length):outF most (.inl Q)=(13,[]):=if_neg (by omega)
section
variable {n:Net} {l:List Int} {most:Nat} {i:Nat}
theorem ext_at {Q:Qs} {t j:Nat} (h:j < Q.length):(ext n i Q t).getD j q5.z=Q.getD j q5.z:=by
 unfold ext
 rw [List.getD_eq_getElem?_getD,List.getElem?_append_left h,← List.getD_eq_getElem?_getD]
theorem qnn {Q:Qs} {t:Nat}:(ext n i Q t).getD Q.length q5.z=(nxt n i Q t,(Q.getD i q5.z).2.1++[(t:Int)],()):=by
 unfold ext
 rw [List.getD_eq_getElem?_getD,List.getElem?_append_right (Nat.le_refl _),Nat.sub_self]
 rfl
theorem q6n {Q:Qs} {t:Nat}:(ext n i Q t).length=Q.length+1:=by unfold ext; rw [List.length_append]; rfl
theorem qnp:∀ (k t:Nat) (Q:Qs),most < Q.length→inn n most i k t Q=Q
 | 0, _, _, _ => rfl
 | k + 1, t, Q, h => by
   unfold inn addQ
   rw [if_neg (by omega)]
   exact qnp k (t+1) Q h
theorem qtq:∀ (k t:Nat) (Q:Qs),Q.length≤(inn n most i k t Q).length∧∀ j,j < Q.length→(inn n most i k t Q).getD j q5.z=Q.getD j q5.z
 | 0, _, Q => ⟨Nat.le_refl _,fun _ _=>rfl⟩
 | k + 1, t, Q => by
   unfold inn
   obtain ⟨h1,h2⟩:=qtq k (t+1) (addQ n most i Q t)
   have ha:Q.length≤(addQ n most i Q t).length∧∀ j,j < Q.length→(addQ n most i Q t).getD j q5.z=Q.getD j q5.z:=by
     unfold addQ
     split
     · cases isNew n i Q t with
       | false => exact ⟨Nat.le_refl _,fun _ _=>rfl⟩
       | true => exact ⟨by show Q.length≤(ext n i Q t).length; rw [q6n]; omega,fun j hj=>ext_at hj⟩
     · exact ⟨Nat.le_refl _,fun _ _=>rfl⟩
   exact ⟨by omega,fun j hj=>(h2 j (by omega)).trans (ha.2 j hj)⟩
theorem qup:∀ (k i:Nat) (Q:Qs),k+i=most→Q.length=most+1→(∀ j,j < most→mk l Q j=true)→outR n l most k i Q=.inl Q
 | 0, _, _, _, _, _ => rfl
 | k + 1, i, Q, h0, h1, h2 => by
   unfold outR
   rw [if_pos (by omega),h2 i (by omega),qnp _ _ _ (by omega)]
   exact qup k (i+1) Q (by omega) h1 h2
theorem qnf:∀ (k i:Nat) (Q:Qs),k+i=most→∀ j,i≤j→j < most→j < Q.length→(∀ j',j' < j→mk l Q j'=true)→mk l Q j=false→outR n l most k i Q=.inr (0,(Q.getD j q5.z).2.1)
 | 0, i, Q, h0, j, h1, h2, _, _, _ => by omega
 | k + 1, i, Q, h0, j, h1, h2, h3, h4, h5 => by
   unfold outR
   rw [if_pos (by omega)]
   by_cases e:i=j
   · subst e
     rw [h5]
     rfl
   · rw [h4 i (by omega)]
     obtain ⟨p1,p2⟩:=qtq (n:=n) (most:=most) (i:=i) n.2.1.length 0 Q
     have hm:∀ j',j' < Q.length→mk l (inn n most i n.2.1.length 0 Q) j'=mk l Q j':=fun j' hj'=>by unfold mk; rw [p2 j' hj']
     have:=qnf k (i+1) (inn n most i n.2.1.length 0 Q) (by omega) j (by omega) h2 (by omega) (fun j' hj'=>by rw [hm j' (by omega)]; exact h4 j' hj') (by rw [hm j h3]; exact h5)
     rw [p2 j h3] at this
     exact this
theorem qnd:∀ (k t:Nat) (Q:Qs),Q.length≤most→(∀ j,j < Q.length→mk l Q j=true) →
   match proI n l most i k t Q with
   | .inl Q' => inn n most i k t Q=Q'∧Q'.length≤most∧(∀ j,j < Q'.length→mk l Q' j=true)
   | .inr r => (r=(13,[])∧(inn n most i k t Q).length=most+1∧∀ j,j < most→mk l (inn n most i k t Q) j=true) ∨
       ∃ j,j < most∧Q.length≤j∧j < (inn n most i k t Q).length∧r=(0,((inn n most i k t Q).getD j q5.z).2.1)∧mk l (inn n most i k t Q) j=false∧∀ j',j' < j→mk l (inn n most i k t Q) j'=true
 | 0, t, Q, h1, h2 => ⟨rfl,h1,h2⟩
 | k + 1, t, Q, h1, h2 => by
   unfold proI inn addQ
   rw [if_pos h1]
   cases hn:isNew n i Q t with
   | false => exact qnd k (t+1) Q h1 h2
   | true =>
     simp only [cond_true]
     by_cases hf:Q.length=most
     · rw [if_pos hf]
       have hfull:=qnp (n:=n) (most:=most) (i:=i) k (t+1) (ext n i Q t) (by rw [q6n]; omega)
       rw [hfull]
       refine .inl ⟨rfl,by rw [q6n]; omega,fun j hj=>?_⟩
       unfold mk
       rw [ext_at (by omega)]
       exact h2 j (by omega)
     · rw [if_neg hf]
       cases hk:mkdB (nxt n i Q t) l with
       | true =>
         simp only [cond_true]
         have hall:∀ j,j < (ext n i Q t).length→mk l (ext n i Q t) j=true:=fun j hj=>by
           rw [q6n] at hj
           unfold mk
           by_cases e:j=Q.length
           · subst e; rw [qnn]; exact hk
           · rw [ext_at (by omega)]; exact h2 j (by omega)
         have hrec:=qnd k (t+1) (ext n i Q t) (by rw [q6n]; omega) hall
         cases hp:proI n l most i k (t+1) (ext n i Q t) with
         | inl Q' => rw [hp] at hrec; exact hrec
         | inr r =>
           rw [hp] at hrec
           rcases hrec with hrec | ⟨j,a1,a2,a3⟩
           · exact .inl hrec
           · rw [q6n] at a2
             exact .inr ⟨j,a1,by omega,a3⟩
       | false =>
         obtain ⟨p1,p2⟩:=qtq (n:=n) (most:=most) (i:=i) k (t+1) (ext n i Q t)
         rw [q6n] at p1 p2
         refine .inr ⟨Q.length,by omega,Nat.le_refl _,by omega,?_,?_,fun j' hj'=>?_⟩
         · rw [p2 _ (by omega),qnn]
         · unfold mk
           rw [p2 _ (by omega),qnn]
           exact hk
         · unfold mk
           rw [p2 _ (by omega),ext_at hj']
           exact h2 j' hj'
theorem both:∀ (k i:Nat) (Q:Qs),k+i=most→Q.length≤most→(∀ j,j < Q.length→mk l Q j=true)→proO n l most k i Q=outF most (outR n l most k i Q)
 | 0, i, Q, _, h1, _ => by
   exact (qms h1).symm
 | k + 1, i, Q, h0, h1, h2 => by
   unfold proO outR
   by_cases hi:i < Q.length
   · rw [if_pos hi,if_pos hi,h2 i hi]
     have hb:=qnd (n:=n) (l:=l) (most:=most) (i:=i) n.2.1.length 0 Q h1 h2
     cases hp:proI n l most i n.2.1.length 0 Q with
     | inl Q' =>
       rw [hp] at hb
       obtain ⟨e,e1,e2⟩:=hb
       rw [cond_true,e]
       exact both k (i+1) Q' (by omega) e1 e2
     | inr r =>
       rw [hp] at hb
       rw [cond_true]
       rcases hb with ⟨rfl,e1,e2⟩ | ⟨j,a1,a2,a3,rfl,a5,a6⟩
       · rw [qup k (i+1) _ (by omega) e1 e2]
         exact (qqe (by omega)).symm
       · rw [qnf k (i+1) _ (by omega) j (by omega) a1 a3 a6 a5]
         rfl
   · rw [if_neg hi,if_neg hi]
     exact (qms h1).symm
end
structure QOK (n:Net) (Q:Qs):Prop where
 mark:∀ x∈Q,markB n.1 x.1=true
 run:∀ j,j < Q.length→(Q.getD j q5.z).2.1.length≤j
theorem QOK.ext {n:Net} (h:Small n) (hv:validN n=true) {Q:Qs} (hQ:QOK n Q) {i t:Nat} (hi:i < Q.length) (ht:t < n.2.1.length) (h0:(fireP n (Q.getD i q5.z).1 t).1=0):QOK n (ext n i Q t):=by
 have hm:=hQ.mark _ (qt q5.z hi)
 refine ⟨fun x hx=>?_,fun j hj=>?_⟩
 · unfold Go.Proofs.Ytjhojmninmipcaa.ext at hx
   rcases List.mem_append.1 hx with hx | hx
   · exact hQ.mark x hx
   · rw [List.mem_singleton] at hx
     subst hx
     exact qsj h hv hm ht h0
 · rw [q6n] at hj
   by_cases e:j=Q.length
   · subst e
     rw [qnn]
     have:=hQ.run i hi
     show ((Q.getD i q5.z).2.1++[(t:Int)]).length≤Q.length
     rw [List.length_append]
     show _+1≤_
     omega
   · rw [ext_at (by omega)]
     exact hQ.run j (by omega)
def Seen (n:Net) (seen:List (ByteArray×Bool)) (Q:Qs):Prop:=∀ x,markB n.1 x=true→((mfind .str (strOfNums x) seen).getD false)=(Q.map (·.1)).any fun y=>decide (y=x)
theorem Seen.put {n:Net} {seen:List (ByteArray×Bool)} {Q:Qs} (hs:Seen n seen Q) {y:List Int} (hy:markB n.1 y=true) (r:List Int):Seen n (mput .str (strOfNums y) true seen) (Q++[(y,r,())]):=by
 intro x hx
 rw [qva,List.map_append,List.any_append]
 have h1:=hs x hx
 show (bif strEq (strOfNums x) (strOfNums y) then some true else mfind .str (strOfNums x) seen).getD false=((Q.map (·.1)).any (fun y=>decide (y=x))||(decide (y=x)||false))
 rw [← h1,Bool.or_false]
 by_cases e:y=x
 · subst e
   rw [qeb.2 rfl,decide_eq_true rfl,Bool.or_true]
   rfl
 · have:strEq (strOfNums x) (strOfNums y)=false:=by
     cases hc:strEq (strOfNums x) (strOfNums y) with
     | false => rfl
     | true => exact absurd (q10v (qst hx) (qst hy) (qeb.1 hc)).symm e
   rw [this,decide_eq_false e,Bool.or_false]
   rfl
section
variable {n:Net} (h:Small n) (hv:validN n=true) (l:List Int) (hl:l.length≤1000) (hb:∀ p∈l,0≤p∧p < n.1) (most:Nat) (hmost:most≤60)
include h hv hl hb hmost in
theorem q11g (i:Nat) (seen:List (ByteArray×Bool)) (Q:Qs) (hi:i < Q.length) (hQ:QOK n Q) (hs:Seen n seen Q) (hlen:Q.length≤most) :
   ∃ o,qi6 l (most:Int) (i:Int) (n.2.1.length:Int) n.1 n.2.1 n.2.2.1 n.2.2.2.1 (0,seen,Q)=some o ∧
     match proI n l most i n.2.1.length 0 Q with
     | .inl Q' => ∃ seen',o=.inl (seen',Q')∧QOK n Q'∧Seen n seen' Q'∧Q'.length≤most∧Q.length≤Q'.length
     | .inr r => o=.inr r:=by
 have htr:=h.trans
 obtain ⟨V,hV⟩:∃ V,proI n l most i n.2.1.length 0 Q=V:=⟨_,rfl⟩
 rw [hV]
 refine qk5 (fun (st:Int×List (ByteArray×Bool)×Qs)=>∃ t:Nat,st.1=(t:Int)∧t≤n.2.1.length∧i < st.2.2.length∧QOK n st.2.2∧Seen n st.2.1 st.2.2∧st.2.2.length≤most∧Q.length≤st.2.2.length∧proI n l most i (n.2.1.length - t) t st.2.2=V) (fun st=>((n.2.1.length:Int) - st.1).toNat) _ _
   ⟨0,rfl,Nat.zero_le _,hi,hQ,hs,hlen,Nat.le_refl _,hV⟩ (by show ((n.2.1.length:Int) - 0).toNat < many; unfold many; omega) ?_
 rintro ⟨_,sn,P⟩ ⟨t,rfl,ht,hiP,hP,hsn,hPl,hQP,he⟩
 have hiP:i < P.length:=hiP
 have hP:QOK n P:=hP
 have hsn:Seen n sn P:=hsn
 have hPl:P.length≤most:=hPl
 have hQP:Q.length≤P.length:=hQP
 have he:proI n l most i (n.2.1.length - t) t P=V:=he
 show ∃ x,q12 l (most:Int) (i:Int) (n.2.1.length:Int) n.1 n.2.1 n.2.2.1 n.2.2.2.1 (t:Int) sn P (fun a'=>some (LR.next a')) (fun e=>some (LR.done e)) (fun r=>some (LR.ret r))=some x∧_
 by_cases hlt:t < n.2.1.length
 · have hm:=hP.mark _ (qt q5.z hiP)
   have e1:qbi (n.1,n.2.1,n.2.2.1,n.2.2.2.1,()) (P.getD i q5.z).1 (t:Int)=some (fireP n (P.getD i q5.z).1 t):=q11m h hv hm hlt
   have hk:n.2.1.length - t=(n.2.1.length - (t+1))+1:=by omega
   rw [hk] at he
   unfold proI at he
   by_cases h0:(fireP n (P.getD i q5.z).1 t).1=0
   · have hmn:=qsj h hv hm hlt h0
     obtain ⟨m1,m2⟩:=q9p.1 hmn
     have hN:=(fireF h hv hm hlt).N
     have e2:=key_eq (m:=(fireP n (P.getD i q5.z).1 t).2) (by omega) (fun j hj=>by have:=m2 j hj; omega)
     have e3:=hsn _ hmn
     cases hnew:isNew n i P t with
     | false =>
       rw [hnew] at he
       have e4:((mfind .str (strOfNums (fireP n (P.getD i q5.z).1 t).2) sn).getD false)=true:=by
         unfold isNew at hnew
         rw [decide_eq_true h0,Bool.true_and,Bool.not_eq_false'] at hnew
         rw [e3]
         exact hnew
       refine ⟨.next (((t+1:Nat):Int),sn,P),?_,⟨t+1,rfl,hlt,hiP,hP,hsn,hPl,hQP,he⟩,by show ((n.2.1.length:Int) - ((t+1:Nat):Int)).toNat < ((n.2.1.length:Int) - (t:Int)).toNat; omega⟩
       simp (disch:=omega) only [q12,e1,e2,e4,ckB_ix,qa,q6,qb,ckB_mk,ckB_ne,bif_lt,qf,bif_le,qc,bif_eq,qe,bif_ne,q9,qd,q4,q0,bnd_ok,lk_inl,lk_inr,Int.toNat_natCast,decide_true]
       rw [qm]
     | true =>
       rw [hnew] at he
       have e4:((mfind .str (strOfNums (fireP n (P.getD i q5.z).1 t).2) sn).getD false)=false:=by
         unfold isNew at hnew
         rw [decide_eq_true h0,Bool.true_and,Bool.not_eq_true'] at hnew
         rw [e3]
         exact hnew
       by_cases hf:P.length=most
       · rw [cond_true,if_pos hf] at he
         refine ⟨.ret (13,[]),?_,?_⟩
         · simp (disch:=omega) only [q12,e1,e2,e4,ckB_ix,qa,q6,qb,ckB_mk,ckB_ne,bif_lt,qf,bif_le,qc,bif_eq,qe,bif_ne,q9,qd,q4,q0,bnd_ok,lk_inl,lk_inr,Int.toNat_natCast,decide_true]
         · rw [← he]
       · rw [cond_true,if_neg hf] at he
         have hr:=hP.run i hiP
         have e5:=qw6 (P.getD i q5.z).2.1 (by omega)
         have e6:=qul l (fireP n (P.getD i q5.z).1 t).2 (by omega) (fun p hp=>by have:=hb p hp; omega)
         cases hkd:mkdB (fireP n (P.getD i q5.z).1 t).2 l with
         | true =>
           have hkd':mkdB (nxt n i P t) l=true:=hkd
           rw [hkd',cond_true] at he
           rw [hkd] at e6
           refine ⟨.next (((t+1:Nat):Int),mput .str (strOfNums (fireP n (P.getD i q5.z).1 t).2) true sn,ext n i P t),?_,⟨t+1,rfl,hlt,by show i < (ext n i P t).length; rw [q6n]; omega,hP.ext h hv hiP hlt h0,hsn.put hmn _,by show (ext n i P t).length≤most; rw [q6n]; omega,by show Q.length≤(ext n i P t).length; rw [q6n]; omega,he⟩,by show ((n.2.1.length:Int) - ((t+1:Nat):Int)).toNat < ((n.2.1.length:Int) - (t:Int)).toNat; omega⟩
           simp (disch:=omega) only [q12,e1,e2,e4,e5,e6,Bool.not_true,ckB_ix,qa,q6,qb,ckB_mk,ckB_ne,bif_lt,qf,bif_le,qc,bif_eq,qe,bif_ne,q9,qd,q4,q0,bnd_ok,lk_inl,lk_inr,Int.toNat_natCast,decide_true]
           rw [qm]
           rfl
         | false =>
           have hkd':mkdB (nxt n i P t) l=false:=hkd
           rw [hkd',cond_false] at he
           rw [hkd] at e6
           refine ⟨.ret (0,(P.getD i q5.z).2.1++[(t:Int)]),?_,?_⟩
           · simp (disch:=omega) only [q12,e1,e2,e4,e5,e6,Bool.not_false,ckB_ix,qa,q6,qb,ckB_mk,ckB_ne,bif_lt,qf,bif_le,qc,bif_eq,qe,bif_ne,q9,qd,q4,q0,bnd_ok,lk_inl,lk_inr,Int.toNat_natCast,decide_true]
           · rw [← he]
   · have hnew:isNew n i P t=false:=by unfold isNew; rw [decide_eq_false h0]; rfl
     rw [hnew] at he
     refine ⟨.next (((t+1:Nat):Int),sn,P),?_,⟨t+1,rfl,hlt,hiP,hP,hsn,hPl,hQP,he⟩,by show ((n.2.1.length:Int) - ((t+1:Nat):Int)).toNat < ((n.2.1.length:Int) - (t:Int)).toNat; omega⟩
     simp (disch:=omega) only [q12,e1,ckB_ix,qa,q6,qb,ckB_mk,ckB_ne,bif_lt,qf,bif_le,qc,bif_eq,qe,bif_ne,q9,qd,q4,q0,bnd_ok,lk_inl,lk_inr,Int.toNat_natCast,decide_true]
     rw [qm]
 · obtain rfl:t=n.2.1.length:=by omega
   rw [Nat.sub_self] at he
   have he:.inl P=V:=he
   refine ⟨.done (sn,P),by simp (disch:=omega) only [q12,ckB_ix,qa,q6,qb,ckB_mk,ckB_ne,bif_lt,qf,bif_le,qc,bif_eq,qe,bif_ne,q9,qd,q4,q0,bnd_ok,lk_inl,lk_inr,Int.toNat_natCast,decide_true],?_⟩
   rw [← he]
   exact ⟨sn,rfl,hP,hsn,hPl,hQP⟩
include h hv hl hb hmost in
theorem q11o (m:List Int) (hm:markB n.1 m=true) (hk:mkdB m l=true) (h1:1≤most) :
   ∃ o,qii l (most:Int) n.1 n.2.1 n.2.2.1 n.2.2.2.1 (0,mput .str (strOfNums m) true [],[(m,[],())])=some o∧(match o with | .inl _=>proO n l most most 0 [(m,[],())]=(10,[]) | .inr r=>proO n l most most 0 [(m,[],())]=r):=by
 have hQ0:QOK n [(m,[],())]:=⟨fun x hx=>by rw [List.mem_singleton] at hx; subst hx; exact hm,fun j hj=>by
   have:j=0:=by have:j < 1:=hj; omega
   subst this
   exact Nat.le_refl _⟩
 have hS0:Seen n (mput .str (strOfNums m) true []) [(m,[],())]:=Seen.put (seen:=[]) (Q:=[]) (fun x _=>rfl) hm []
 obtain ⟨V,hV⟩:∃ V,proO n l most most 0 [(m,[],())]=V:=⟨_,rfl⟩
 rw [hV]
 refine qk5 (fun (st:Int×List (ByteArray×Bool)×Qs)=>∃ i:Nat,st.1=(i:Int)∧i≤most∧QOK n st.2.2∧Seen n st.2.1 st.2.2∧st.2.2.length≤most∧proO n l most (most - i) i st.2.2=V) (fun st=>((most:Int) - st.1).toNat) _ _
   ⟨0,rfl,Nat.zero_le _,hQ0,hS0,h1,hV⟩ (by show ((most:Int) - 0).toNat < many; unfold many; omega) ?_
 rintro ⟨_,sn,P⟩ ⟨i,rfl,hi,hP,hsn,hPl,he⟩
 have hP:QOK n P:=hP
 have hsn:Seen n sn P:=hsn
 have hPl:P.length≤most:=hPl
 have he:proO n l most (most - i) i P=V:=he
 show ∃ x,q3l l (most:Int) n.1 n.2.1 n.2.2.1 n.2.2.2.1 (i:Int) sn P (fun a'=>some (LR.next a')) (fun e=>some (LR.done e)) (fun r=>some (LR.ret r))=some x∧_
 by_cases hlt:i < P.length
 · obtain ⟨o,e1,e2⟩:=q11g h hv l hl hb most hmost i sn P hlt hP hsn hPl
   have hk:most - i=(most - (i+1))+1:=by omega
   rw [hk] at he
   unfold proO at he
   rw [if_pos hlt] at he
   cases hp:proI n l most i n.2.1.length 0 P with
   | inl Q' =>
     rw [hp] at e2 he
     obtain ⟨seen',rfl,a1,a2,a3,a4⟩:=e2
     refine ⟨.next (((i+1:Nat):Int),seen',Q'),?_,⟨i+1,rfl,by omega,a1,a2,a3,he⟩,by show ((most:Int) - ((i+1:Nat):Int)).toNat < ((most:Int) - (i:Int)).toNat; omega⟩
     simp (disch:=omega) only [q3l,e1,ckB_ix,qa,q6,qb,ckB_mk,ckB_ne,bif_lt,qf,bif_le,qc,bif_eq,qe,bif_ne,q9,qd,q4,q0,bnd_ok,lk_inl,lk_inr,Int.toNat_natCast,decide_true]
     rw [qm]
   | inr r =>
     rw [hp] at e2 he
     subst e2
     refine ⟨.ret r,?_,he.symm⟩
     simp (disch:=omega) only [q3l,e1,ckB_ix,qa,q6,qb,ckB_mk,ckB_ne,bif_lt,qf,bif_le,qc,bif_eq,qe,bif_ne,q9,qd,q4,q0,bnd_ok,lk_inl,lk_inr,Int.toNat_natCast,decide_true]
 · refine ⟨.done (),by simp (disch:=omega) only [q3l,ckB_ix,qa,q6,qb,ckB_mk,ckB_ne,bif_lt,qf,bif_le,qc,bif_eq,qe,bif_ne,q9,qd,q4,q0,bnd_ok,lk_inl,lk_inr,Int.toNat_natCast,decide_true],?_⟩
   show V=(10,[])
   rw [← he]
   cases hk:most - i with
   | zero => rfl
   | succ k => unfold proO; rw [if_neg hlt]
end
end Go.Proofs.Ytjhojmninmipcaa
