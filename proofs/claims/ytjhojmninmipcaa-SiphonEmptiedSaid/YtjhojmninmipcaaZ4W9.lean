/-
  Siphon: the search of the reference; the law SiphonEmptied.
-/
import Derived.Test.YtjhojmninmipcaaZ4W8
set_option linter.all false
namespace Go.Proofs.Ytjhojmninmipcaa
open Go.K Go.M
def mets (Q:Qs):List (List Int):=Q.map (·.1)
def runs (Q:Qs):List (List Int):=Q.map (·.2.1)
theorem qsf (Q:Qs):(mets Q).length=Q.length:=List.length_map _
theorem qwu (Q:Qs):(runs Q).length=Q.length:=List.length_map _
theorem qya (Q:Qs) (i:Nat):(mets Q).getD i []=(Q.getD i q5.z).1:=by
 unfold mets
 rw [List.getD_eq_getElem?_getD,List.getD_eq_getElem?_getD,List.getElem?_map]
 cases Q[i]? <;> rfl
theorem qxw (Q:Qs) (i:Nat):(runs Q).getD i []=(Q.getD i q5.z).2.1:=by
 unfold runs
 rw [List.getD_eq_getElem?_getD,List.getD_eq_getElem?_getD,List.getElem?_map]
 cases Q[i]? <;> rfl
theorem q10x (n:Net) (i:Nat) (Q:Qs) (t:Nat):mets (ext n i Q t)=mets Q++[(fireP n (Q.getD i q5.z).1 t).2]:=by unfold mets ext; rw [List.map_append]; rfl
theorem q10z (n:Net) (i:Nat) (Q:Qs) (t:Nat):runs (ext n i Q t)=runs Q++[(Q.getD i q5.z).2.1++[(t:Int)]]:=by unfold runs ext; rw [List.map_append]; rfl
section
variable {n:Net} (h:Small n) (hv:validN n=true) (l:List Int) (hl:l.length≤1000) (hb:∀ p∈l,0≤p∧p < n.1) (most:Nat) (hmost:most≤60)
include h hv hmost in
theorem qyl (i:Nat) (Q:Qs) (hi:i < Q.length) (hQ:QOK n Q) (hlen:Q.length≤most+1) :
   qfi l (most:Int) (i:Int) n.1 n.2.1 n.2.2.1 n.2.2.2.1 (0,mets Q,runs Q)=some (.inl (mets (inn n most i n.2.1.length 0 Q),runs (inn n most i n.2.1.length 0 Q))) ∧
     QOK n (inn n most i n.2.1.length 0 Q)∧(inn n most i n.2.1.length 0 Q).length≤most+1:=by
 have htr:=h.trans
 obtain ⟨V,hV⟩:∃ V,inn n most i n.2.1.length 0 Q=V:=⟨_,rfl⟩
 rw [hV]
 suffices H:∃ o,qfi l (most:Int) (i:Int) n.1 n.2.1 n.2.2.1 n.2.2.2.1 (0,mets Q,runs Q)=some o∧(o=.inl (mets V,runs V)∧QOK n V∧V.length≤most+1) by
   obtain ⟨o,h1,rfl,h2⟩:=H
   exact ⟨h1,h2⟩
 refine qk5 (fun (st:Int×List (List Int)×List (List Int))=>∃ (t:Nat) (P:Qs),st=((t:Int),mets P,runs P)∧t≤n.2.1.length∧i < P.length∧QOK n P∧P.length≤most+1∧inn n most i (n.2.1.length - t) t P=V) (fun st=>((n.2.1.length:Int) - st.1).toNat) _ _
   ⟨0,Q,rfl,Nat.zero_le _,hi,hQ,hlen,hV⟩ (by show ((n.2.1.length:Int) - 0).toNat < many; unfold many; omega) ?_
 rintro _ ⟨t,P,rfl,ht,hiP,hP,hPl,he⟩
 show ∃ x,q28 l (most:Int) (i:Int) n.1 n.2.1 n.2.2.1 n.2.2.2.1 (t:Int) (mets P) (runs P) (fun a'=>some (LR.next a')) (fun e=>some (LR.done e)) (fun r=>some (LR.ret r))=some x∧_
 have hml:=qsf P
 have hrl:=qwu P
 by_cases hlt:t < n.2.1.length
 · by_cases hf:P.length≤most
   · have hm:=hP.mark _ (qt q5.z hiP)
     have e1:qf9 (n.1,n.2.1,n.2.2.1,n.2.2.2.1,()) ((mets P).getD i []) (t:Int)=some (fireP n (P.getD i q5.z).1 t):=by rw [qya]; exact qz9 h hv hm hlt
     have hk:n.2.1.length - t=(n.2.1.length - (t+1))+1:=by omega
     rw [hk] at he
     unfold inn addQ at he
     rw [if_pos hf] at he
     have hμ:((n.2.1.length:Int) - ((t+1:Nat):Int)).toNat < ((n.2.1.length:Int) - (t:Int)).toNat:=by omega
     by_cases h0:(fireP n (P.getD i q5.z).1 t).1=0
     · have hN:=(fireF h hv hm hlt).N
       obtain ⟨r,e2,e3⟩:=q11r (mets P) (fireP n (P.getD i q5.z).1 t).2 (by omega) (fun x hx=>by
         obtain ⟨y,hy,rfl⟩:=List.mem_map.1 hx
         have:=(q9p.1 (hP.mark y hy)).1
         omega)
       cases hnew:isNew n i P t with
       | false =>
         rw [hnew] at he
         have e4:¬ r < 0:=by
           unfold isNew at hnew
           rw [decide_eq_true h0,Bool.true_and] at hnew
           have e3:decide (r < 0)=false:=e3.trans hnew
           exact of_decide_eq_false e3
         refine ⟨.next (((t+1:Nat):Int),mets P,runs P),?_,⟨t+1,P,rfl,hlt,hiP,hP,hPl,he⟩,hμ⟩
         simp (disch:=omega) only [q28,e1,e2,hml,ckB_ix,qa,q6,qb,ckB_mk,ckB_ne,bif_lt,qf,bif_le,qc,bif_eq,qe,bif_ne,q9,qd,q4,q0,bnd_ok,lk_inl,lk_inr,Int.toNat_natCast,decide_true]
         rw [qm]
       | true =>
         rw [hnew] at he
         have e4:r < 0:=by
           unfold isNew at hnew
           rw [decide_eq_true h0,Bool.true_and] at hnew
           have e3:decide (r < 0)=true:=e3.trans hnew
           exact of_decide_eq_true e3
         have hr:=hP.run i hiP
         refine ⟨.next (((t+1:Nat):Int),mets (ext n i P t),runs (ext n i P t)),?_,⟨t+1,ext n i P t,rfl,hlt,by rw [q6n]; omega,hP.ext h hv hiP hlt h0,by rw [q6n]; omega,he⟩,hμ⟩
         rw [q10x,q10z]
         simp (disch:=omega) only [q28,e1,e2,hml,hrl,qxw,List.nil_append,ckB_ix,qa,q6,qb,ckB_mk,ckB_ne,bif_lt,qf,bif_le,qc,bif_eq,qe,bif_ne,q9,qd,q4,q0,bnd_ok,lk_inl,lk_inr,Int.toNat_natCast,decide_true]
         rw [qm]
     · have hnew:isNew n i P t=false:=by unfold isNew; rw [decide_eq_false h0]; rfl
       rw [hnew] at he
       refine ⟨.next (((t+1:Nat):Int),mets P,runs P),?_,⟨t+1,P,rfl,hlt,hiP,hP,hPl,he⟩,hμ⟩
       simp (disch:=omega) only [q28,e1,hml,ckB_ix,qa,q6,qb,ckB_mk,ckB_ne,bif_lt,qf,bif_le,qc,bif_eq,qe,bif_ne,q9,qd,q4,q0,bnd_ok,lk_inl,lk_inr,Int.toNat_natCast,decide_true]
       rw [qm]
   · rw [qnp _ _ _ (by omega)] at he
     subst he
     exact ⟨.done (mets P,runs P),by simp (disch:=omega) only [q28,hml,ckB_ix,qa,q6,qb,ckB_mk,ckB_ne,bif_lt,qf,bif_le,qc,bif_eq,qe,bif_ne,q9,qd,q4,q0,bnd_ok,lk_inl,lk_inr,Int.toNat_natCast,decide_true],rfl,hP,hPl⟩
 · obtain rfl:t=n.2.1.length:=by omega
   rw [Nat.sub_self] at he
   have he:P=V:=he
   subst he
   exact ⟨.done (mets P,runs P),by simp (disch:=omega) only [q28,ckB_ix,qa,q6,qb,ckB_mk,ckB_ne,bif_lt,qf,bif_le,qc,bif_eq,qe,bif_ne,q9,qd,q4,q0,bnd_ok,lk_inl,lk_inr,Int.toNat_natCast,decide_true],rfl,hP,hPl⟩
include h hv hl hb hmost in
theorem q129 (m:List Int) (hm:markB n.1 m=true) :
   ∃ o,qku l (most:Int) n.1 n.2.1 n.2.2.1 n.2.2.2.1 (0,[m],[[]])=some o∧(match o with | .inl M=>∃ Q,outR n l most most 0 [(m,[],())]=.inl Q∧M=mets Q | .inr r=>outR n l most most 0 [(m,[],())]=.inr (r.2,r.1)):=by
 have hQ0:QOK n [(m,[],())]:=⟨fun x hx=>by rw [List.mem_singleton] at hx; subst hx; exact hm,fun j hj=>by
   have:j=0:=by have:j < 1:=hj; omega
   subst this
   exact Nat.le_refl _⟩
 obtain ⟨V,hV⟩:∃ V,outR n l most most 0 [(m,[],())]=V:=⟨_,rfl⟩
 rw [hV]
 refine qk5 (fun (st:Int×List (List Int)×List (List Int))=>∃ (i:Nat) (P:Qs),st=((i:Int),mets P,runs P)∧i≤most∧QOK n P∧P.length≤most+1∧outR n l most (most - i) i P=V) (fun st=>((most:Int) - st.1).toNat) _ _
   ⟨0,[(m,[],())],rfl,Nat.zero_le _,hQ0,by show 1≤most+1; omega,hV⟩ (by show ((most:Int) - 0).toNat < many; unfold many; omega) ?_
 rintro _ ⟨i,P,rfl,hi,hP,hPl,he⟩
 have hml:=qsf P
 have hrl:=qwu P
 show ∃ x,q3e l (most:Int) n.1 n.2.1 n.2.2.1 n.2.2.2.1 (i:Int) (mets P) (runs P) (fun a'=>some (LR.next a')) (fun e=>some (LR.done e)) (fun r=>some (LR.ret r))=some x∧_
 by_cases hlt:i < P.length
 · by_cases him:i < most
   · obtain ⟨e1,e2,e3⟩:=qyl h hv l most hmost i P hlt hP hPl
     have hk:most - i=(most - (i+1))+1:=by omega
     rw [hk] at he
     unfold outR at he
     rw [if_pos hlt] at he
     have hmk:=hP.mark _ (qt q5.z hlt)
     have hmm:=(q9p.1 hmk).1
     have e4:qaw ((mets P).getD i []) l=some (mk l P i):=by
       rw [qya]
       exact q10b _ _ (by omega) (fun p hp=>by have:=hb p hp; omega)
     cases hc:mk l P i with
     | true =>
       rw [hc] at he e4
       refine ⟨.next (((i+1:Nat):Int),mets (inn n most i n.2.1.length 0 P),runs (inn n most i n.2.1.length 0 P)),?_,⟨i+1,_,rfl,by omega,e2,e3,he⟩,by show ((most:Int) - ((i+1:Nat):Int)).toNat < ((most:Int) - (i:Int)).toNat; omega⟩
       simp (disch:=omega) only [q3e,e1,e4,hml,Bool.not_true,ckB_ix,qa,q6,qb,ckB_mk,ckB_ne,bif_lt,qf,bif_le,qc,bif_eq,qe,bif_ne,q9,qd,q4,q0,bnd_ok,lk_inl,lk_inr,Int.toNat_natCast,decide_true]
       rw [qm]
     | false =>
       rw [hc] at he e4
       refine ⟨.ret ((P.getD i q5.z).2.1,0),?_,he.symm⟩
       simp (disch:=omega) only [q3e,e4,hml,hrl,qxw,Bool.not_false,ckB_ix,qa,q6,qb,ckB_mk,ckB_ne,bif_lt,qf,bif_le,qc,bif_eq,qe,bif_ne,q9,qd,q4,q0,bnd_ok,lk_inl,lk_inr,Int.toNat_natCast,decide_true]
   · have hk:most - i=0:=by omega
     rw [hk] at he
     refine ⟨.done (mets P),by simp (disch:=omega) only [q3e,hml,ckB_ix,qa,q6,qb,ckB_mk,ckB_ne,bif_lt,qf,bif_le,qc,bif_eq,qe,bif_ne,q9,qd,q4,q0,bnd_ok,lk_inl,lk_inr,Int.toNat_natCast,decide_true],P,he.symm,rfl⟩
 · refine ⟨.done (mets P),by simp (disch:=omega) only [q3e,hml,ckB_ix,qa,q6,qb,ckB_mk,ckB_ne,bif_lt,qf,bif_le,qc,bif_eq,qe,bif_ne,q9,qd,q4,q0,bnd_ok,lk_inl,lk_inr,Int.toNat_natCast,decide_true],P,?_,rfl⟩
   rw [← he]
   cases hk:most - i with
   | zero => rfl
   | succ k => unfold outR; rw [if_neg hlt]
end
theorem qvf {n:Net} (h:Small n) (hv:validN n=true) (m l:List Int) (hm:markB n.1 m=true) (hl:l.length≤1000) (hb:∀ p∈l,0≤p∧p < n.1) (most:Nat) (hmost:most≤60) :
   q7u n m l (most:Int)=some ((outF most (outR n l most most 0 [(m,[],())])).2,(outF most (outR n l most most 0 [(m,[],())])).1):=by
 obtain ⟨o,e1,e2⟩:=q129 h hv l hl hb most hmost m hm
 unfold q7u
 rw [e1,bnd_ok]
 cases o with
 | inl M =>
   obtain ⟨Q,e3,rfl⟩:=e2
   rw [e3]
   have hml:=qsf Q
   by_cases hq:Q.length≤most
   · rw [qms hq]
     simp (disch:=omega) only [hml,ckB_ix,qa,q6,qb,ckB_mk,ckB_ne,bif_lt,qf,bif_le,qc,bif_eq,qe,bif_ne,q9,qd,q4,q0,bnd_ok,lk_inl,lk_inr,Int.toNat_natCast,decide_true]
   · rw [qqe (by omega)]
     simp (disch:=omega) only [hml,ckB_ix,qa,q6,qb,ckB_mk,ckB_ne,bif_lt,qf,bif_le,qc,bif_eq,qe,bif_ne,q9,qd,q4,q0,bnd_ok,lk_inl,lk_inr,Int.toNat_natCast,decide_true]
 | inr r =>
   have e2:outR n l most most 0 [(m,[],())]=.inr (r.2,r.1):=e2
   rw [e2]
   rfl
theorem qzg {n:Net} (h:Small n) (hv:validN n=true) (m l:List Int) (hm:markB n.1 m=true) (hl:l.length≤1000) (hs:setB n.1 l=true) (most:Nat) (h1:1≤most) (hmost:most≤60) :
   qy n m l (most:Int)=some (outF most (outR n l most most 0 [(m,[],())])):=by
 obtain ⟨hb,_⟩:=qk4.1 hs
 obtain ⟨m1,m2⟩:=q9p.1 hm
 have hN:1≤n.1∧n.1≤40:=by
   unfold validN at hv
   simp only [Bool.and_eq_true,decide_eq_true_eq] at hv
   exact hv.1.1.1.1
 have e1:=quv h m (by omega)
 rw [hv,hm] at e1
 have e2:=qoz n l (by omega)
 rw [hs] at e2
 have e3:=qul l m (by omega) (fun p hp=>by have:=hb p hp; omega)
 have e4:=key_eq (m:=m) (by omega) (fun j hj=>by have:=m2 j hj; omega)
 unfold qy
 cases hk:mkdB m l with
 | false =>
   rw [hk] at e3
   have hr:outR n l most most 0 [(m,[],())]=.inr (0,[]):=qnf most 0 _ (by omega) 0 (Nat.le_refl _) (by omega) (by show 0 < 1; omega) (fun j hj=>by omega) hk
   rw [hr]
   simp (disch:=omega) only [e1,e2,e3,Bool.and_true,Bool.not_true,Bool.not_false,ckB_ix,qa,q6,qb,ckB_mk,ckB_ne,bif_lt,qf,bif_le,qc,bif_eq,qe,bif_ne,q9,qd,q4,q0,bnd_ok,lk_inl,lk_inr,Int.toNat_natCast,decide_true]
   rfl
 | true =>
   rw [hk] at e3
   obtain ⟨o,e5,e6⟩:=q11o h hv l hl hb most hmost m hm hk h1
   have hbo:=both (n:=n) (l:=l) (most:=most) most 0 [(m,[],())] (by omega) h1 (fun j hj=>by
     have:j=0:=by have:j < 1:=hj; omega
     subst this
     exact hk)
   rw [← hbo]
   simp (disch:=omega) only [e1,e2,e3,e4,Bool.and_true,Bool.not_true,ckB_ix,qa,q6,qb,ckB_mk,ckB_ne,bif_lt,qf,bif_le,qc,bif_eq,qe,bif_ne,q9,qd,q4,q0,bnd_ok,lk_inl,lk_inr,Int.toNat_natCast,decide_true]
   refine Eq.trans (congrArg (fun z:Option (Unit⊕(Int×List Int))=>bnd z fun oe=>lk oe (fun _=>some ((10:Int),([]:List Int))) fun r=>some r) e5) ?_
   cases o with
   | inl u =>
     have e6:proO n l most most 0 [(m,[],())]=(10,[]):=e6
     rw [e6]
     rfl
   | inr r =>
     have e6:proO n l most most 0 [(m,[],())]=r:=e6
     rw [e6]
     rfl
theorem qt7 {n:Net} (h:Small n) (hv:validN n=true) (l:List Int) (most:Nat) (hmost:most≤60):∀ (k i:Nat) (Q:Qs),QOK n Q→Q.length≤most+1→(outF most (outR n l most k i Q)).2.length≤1000
 | 0, i, Q, _, _ => by
   show (outF most (.inl Q)).2.length≤1000
   by_cases hq:Q.length≤most
   · rw [qms hq]; exact Nat.zero_le _
   · rw [qqe (by omega)]; exact Nat.zero_le _
 | k + 1, i, Q, hQ, hl => by
   unfold outR
   by_cases hi:i < Q.length
   · rw [if_pos hi]
     cases mk l Q i with
     | true =>
       obtain ⟨_,e2,e3⟩:=qyl h hv l most hmost i Q hi hQ hl
       exact qt7 h hv l most hmost k (i+1) _ e2 e3
     | false =>
       show (Q.getD i q5.z).2.1.length≤1000
       have:=hQ.run i hi
       omega
   · rw [if_neg hi]
     by_cases hq:Q.length≤most
     · rw [qms hq]; exact Nat.zero_le _
     · rw [qqe (by omega)]; exact Nat.zero_le _
theorem qpo (n:Net) (m l:List Int) (most:Int):qa8 n m l most=some true:=by
 obtain ⟨b,hb,hF⟩:=q10u n
 unfold qa8
 rw [qz5,hb]
 simp only [bnd_ok]
 cases b with
 | true => rfl
 | false =>
   obtain ⟨h,_,hpl⟩:=hF rfl
   by_cases h1:(60:Int) < (m.length:Int)
   · rw [decide_eq_true h1]; rfl
   · by_cases h2:(60:Int) < (l.length:Int)
     · rw [decide_eq_false h1,decide_eq_true h2]; rfl
     · have hT:(most≤60∨2000 < most)→q5p m l most n.1 n.2.1 n.2.2.1 n.2.2.2.1=some (.inr true):=fun hmost=>by
         have e1:=quv h m (by omega)
         have e2:qa2 (n.1,n.2.1,n.2.2.1,n.2.2.2.1,())=some (validN n):=qr5 h
         have e3:q5x (n.1,n.2.1,n.2.2.1,n.2.2.2.1,()) m=some (markB n.1 m):=qhq n m (by omega)
         have e4:=qoz n l (by omega)
         have e5:qgz (n.1,n.2.1,n.2.2.1,n.2.2.2.1,()) l=some (setB n.1 l):=qwd n l (by omega)
         unfold q5p q8g
         rw [e2]
         cases hv:validN n with
         | false =>
           have e6:qy (n.1,n.2.1,n.2.2.1,n.2.2.2.1,()) m l most=some (1,[]):=by
             show qy n m l most=_
             unfold qy
             rw [e1,hv]
             rfl
           rw [e6]
           rfl
         | true =>
           rw [e3]
           cases hm:markB n.1 m with
           | false =>
             have e6:qy (n.1,n.2.1,n.2.2.1,n.2.2.2.1,()) m l most=some (1,[]):=by
               show qy n m l most=_
               unfold qy
               rw [e1,hm,Bool.and_false]
               rfl
             rw [e6]
             rfl
           | true =>
             rw [hv,hm] at e1
             have eT0:∀ (r:List Int) (e:Int),q5r m l most r e false n.1 n.2.1 n.2.2.1 n.2.2.2.1=bif !setB n.1 l||decide (most < 1)||decide (2000 < most) then (bif decide (e=2) then some (.inr (decide ((r.length:Int)=0))) else some (.inr false)) else some (.inl ()):=fun r e=>by
               unfold q5r q8b
               rw [e5]
               cases setB n.1 l<;>cases decide (most < 1)<;>cases decide (2000 < most)<;>cases decide (e=2)<;>rfl
             cases hc:!setB n.1 l||decide (most < 1)||decide (2000 < most) with
             | true =>
               have e6:qy (n.1,n.2.1,n.2.2.1,n.2.2.2.1,()) m l most=some (2,[]):=by
                 show qy n m l most=_
                 unfold qy
                 rw [e1,e4]
                 revert hc
                 cases setB n.1 l<;>cases decide (most < 1)<;>cases decide (2000 < most)<;>intro hc<;>first | rfl | cases hc
               rw [e6]
               simp only [bnd_ok,Bool.not_true,cond_false,eT0,hc]
               rfl
             | false =>
               simp only [Bool.or_eq_false_iff,decide_eq_false_iff_not,Bool.not_eq_false'] at hc
               obtain ⟨⟨c1,c2⟩,c3⟩:=hc
               obtain ⟨k,hk⟩:∃ k:Nat,most=(k:Int):=⟨most.toNat,by omega⟩
               have hk1:1≤k:=by omega
               have hk2:k≤60:=by omega
               subst hk
               have e6:qy (n.1,n.2.1,n.2.2.1,n.2.2.2.1,()) m l (k:Int)=_:=qzg h hv m l hm (by omega) c1 k hk1 hk2
               have e7:q7u (n.1,n.2.1,n.2.2.1,n.2.2.2.1,()) m l (k:Int)=_:=qvf h hv m l hm (by omega) (qk4.1 c1).1 k hk2
               have hsh:=qt7 h hv l k hk2 k 0 [(m,[],())] ⟨fun x hx=>by rw [List.mem_singleton] at hx; subst hx; exact hm,fun j hj=>by
                 have:j=0:=by have:j < 1:=hj; omega
                 subst this
                 exact Nat.le_refl _⟩ (by show 1≤k+1; omega)
               generalize outF k (outR n l k k 0 [(m,[],())])=V at e6 e7 hsh
               have e8:=qzj V.2 (by omega)
               have hcc:(!setB n.1 l||decide ((k:Int) < 1)||decide (2000 < (k:Int)))=false:=by rw [c1,decide_eq_false c2,decide_eq_false c3]; rfl
               rw [e6]
               simp only [bnd_ok,Bool.not_true,cond_false,eT0,hcc,lk_inl,e7,e8,decide_true,cond_true]
       by_cases h3:(60:Int) < most
       · by_cases h4:most≤2000
         · rw [decide_eq_false h1,decide_eq_false h2,decide_eq_true h3,decide_eq_true h4]; rfl
         · rw [decide_eq_false h1,decide_eq_false h2,decide_eq_true h3,decide_eq_false h4,hT (by omega)]; rfl
       · rw [decide_eq_false h1,decide_eq_false h2,decide_eq_false h3,hT (by omega)]; rfl
end Go.Proofs.Ytjhojmninmipcaa
