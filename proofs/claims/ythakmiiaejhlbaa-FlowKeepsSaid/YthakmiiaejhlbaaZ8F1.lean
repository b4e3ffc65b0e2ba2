/-
  Flow: names, lists of places, nets, incidences: the program and the reference reckon alike.
-/
import Derived.Test.YthakmiiaejhlbaaZ8Md
import Derived.Test.YthakmiiaejhlbaaZ8KE
import Derived.KernelRfl
set_option linter.all false
namespace Go.Proofs.Ythakmiiaejhlbaa
open Go.K Go.M
theorem q136:qnj=some true:=by kernel_rfl
def eqS (a b:ByteArray):Bool:=ByteArray.toList a == ByteArray.toList b
theorem q16t (a b:ByteArray):(ByteArray.toList a == ByteArray.toList b)=eqS a b:=rfl
def letB (c:Int):Bool:=decide (65≤c)&&decide (c≤90)||decide (97≤c)&&decide (c≤122)
def partB (c:Int):Bool:=letB c||decide (48≤c)&&decide (c≤57)||decide (c=95)||decide (c=45)||decide (c=46)
abbrev byt (s:ByteArray) (i:Nat):Int:=((ByteArray.data s).getD i 0).toNat
theorem qxe (c:Int):qdx c=some (letB c):=by
 unfold qdx letB
 cases decide ((65:Int)≤c)<;>cases decide (c≤(90:Int))<;>cases decide ((97:Int)≤c)<;>cases decide (c≤(122:Int))<;>rfl
theorem q115 (c:Int):qml c=some (partB c):=by
 unfold qml partB
 rw [qxe,bnd_ok]
 cases letB c<;>cases decide ((48:Int)≤c)<;>cases decide (c≤(57:Int))<;>cases decide (c=(95:Int))<;>cases decide (c=(45:Int))<;>cases decide (c=(46:Int))<;>rfl
def nameB (s:ByteArray):Bool:=decide (1≤s.size)&&decide (s.size≤40)&&letB (byt s 0)&&(List.range s.size).all fun i=>partB (byt s i)
theorem q14c (s:ByteArray):qi4 s=some (nameB s):=by
 unfold qi4 nameB
 by_cases h1:(s.size:Int) < 1
 · have:¬ 1≤s.size:=by omega
   simp (disch:=omega) only [ckB_ix,q6,q5,qc,ckB_mk,ckB_ne,bif_lt,q8,bif_le,qa,bif_eq,q9,bif_ne,q7,qb,q4,q0,bnd_ok,lk_inl,lk_inr,Int.toNat_natCast,decide_true]
   rw [decide_eq_false this]; rfl
 · have h1':1≤s.size:=by omega
   rw [decide_eq_true h1']
   by_cases h2:40 < (s.size:Int)
   · have:¬ s.size≤40:=by omega
     simp (disch:=omega) only [ckB_ix,q6,q5,qc,ckB_mk,ckB_ne,bif_lt,q8,bif_le,qa,bif_eq,q9,bif_ne,q7,qb,q4,q0,bnd_ok,lk_inl,lk_inr,Int.toNat_natCast,decide_true]
     rw [decide_eq_false this]; rfl
   · have h2':s.size≤40:=by omega
     rw [decide_eq_true h2']
     have hL:qq5 s (s.size:Int) 0=some (bif (List.range s.size).all (fun i=>partB (byt s i)) then .inl () else .inr false):=by
       refine qky (fun i:Nat=>(i:Int)) s.size (q13 (by omega)) _ () false ?_ ?_ ?_
       · intro i hi hp
         simp (disch:=omega) only [qag,q115,hp,Bool.not_true,ckB_ix,q6,q5,qc,ckB_mk,ckB_ne,bif_lt,q8,bif_le,qa,bif_eq,q9,bif_ne,q7,qb,q4,q0,bnd_ok,lk_inl,lk_inr,Int.toNat_natCast,decide_true]
         rw [qg]
       · intro i hi hp
         simp (disch:=omega) only [qag,q115,hp,Bool.not_false,ckB_ix,q6,q5,qc,ckB_mk,ckB_ne,bif_lt,q8,bif_le,qa,bif_eq,q9,bif_ne,q7,qb,q4,q0,bnd_ok,lk_inl,lk_inr,Int.toNat_natCast,decide_true]
       · simp (disch:=omega) only [qag,ckB_ix,q6,q5,qc,ckB_mk,ckB_ne,bif_lt,q8,bif_le,qa,bif_eq,q9,bif_ne,q7,qb,q4,q0,bnd_ok,lk_inl,lk_inr,Int.toNat_natCast,decide_true]
     simp (disch:=omega) only [qxe,hL,ckB_ix,q6,q5,qc,ckB_mk,ckB_ne,bif_lt,q8,bif_le,qa,bif_eq,q9,bif_ne,q7,qb,q4,q0,bnd_ok,lk_inl,lk_inr,Int.toNat_natCast,decide_true]
     cases letB (byt s 0) with
     | false => rfl
     | true => cases (List.range s.size).all (fun i=>partB (byt s i))<;>rfl
def memB (l:List Int) (x:Int):Bool:=l.any fun y=>decide (x=y)
theorem qsy (l:List Int) (h:l.length≤1000000) (x:Int):q3v l x=some (memB l x):=by
 have hL:qe7 l x (l.length:Int) 0=some (fOut (fun i=>(i:Int)) (fidx (fun y=>decide (x=y)) l)):=by
   refine qcd l 0 (fun y=>decide (x=y)) (fun i=>(i:Int)) (by omega) (fun i hi=>?_) ?_
   · simp (disch:=omega) only [q5v,ckB_ix,q6,q5,qc,ckB_mk,ckB_ne,bif_lt,q8,bif_le,qa,bif_eq,q9,bif_ne,q7,qb,q4,q0,bnd_ok,lk_inl,lk_inr,Int.toNat_natCast,decide_true]
     rw [qg]
     cases decide (x=l.getD i 0)<;>rfl
   · simp (disch:=omega) only [q5v,ckB_ix,q6,q5,qc,ckB_mk,ckB_ne,bif_lt,q8,bif_le,qa,bif_eq,q9,bif_ne,q7,qb,q4,q0,bnd_ok,lk_inl,lk_inr,Int.toNat_natCast,decide_true]
 unfold q3v qbd
 rw [hL,bnd_ok,qi2,bnd_ok,qhf]
 rfl
def badQ (N:Int) (l:List Int) (i:Nat):Bool:=decide (l.getD i 0 < 0)||decide (N≤l.getD i 0)||decide (0 < i)&&decide (l.getD i 0≤l.getD (i - 1) 0)
def setB (N:Int) (l:List Int):Bool:=(List.range l.length).all fun i=>!badQ N l i
theorem qsm (N:Int) (ts:List Trans) (a b:Int) (l:List Int) (h:l.length≤1000000):qnu l l (l.length:Int) N ts a b 0=some (bif (List.range l.length).all (fun i=>!badQ N l i) then .inl () else .inr false):=by
 have hst:∀ i:Nat,i < l.length→q7f l l (l.length:Int) N ts a b (R:=LR Int Unit Bool) (i:Int) (fun a'=>some (.next a')) (fun e=>some (.done e)) (fun r=>some (.ret r))=some (bif badQ N l i then .ret false else .next ((i+1:Nat):Int)):=fun i hi=>by
   unfold badQ
   by_cases h0:0 < i
   · have e:(i:Int) - 1=((i - 1:Nat):Int):=by omega
     have h0':(0:Int) < (i:Int):=by omega
     rw [decide_eq_true h0]
     simp (disch:=omega) only [q7f,e,ckB_ix,q6,q5,qc,ckB_mk,ckB_ne,bif_lt,q8,bif_le,qa,bif_eq,q9,bif_ne,q7,qb,q4,q0,bnd_ok,lk_inl,lk_inr,Int.toNat_natCast,decide_true]
     rw [qg]
     cases decide (l.getD i 0 < 0)<;>cases decide (N≤l.getD i 0)<;>cases decide (l.getD i 0≤l.getD (i - 1) 0)<;>rfl
   · have h0':¬ (0:Int) < (i:Int):=by omega
     rw [decide_eq_false h0]
     simp (disch:=omega) only [q7f,ckB_ix,q6,q5,qc,ckB_mk,ckB_ne,bif_lt,q8,bif_le,qa,bif_eq,q9,bif_ne,q7,qb,q4,q0,bnd_ok,lk_inl,lk_inr,Int.toNat_natCast,decide_true]
     rw [qg]
     cases decide (l.getD i 0 < 0)<;>cases decide (N≤l.getD i 0)<;>rfl
 refine qky (fun i:Nat=>(i:Int)) l.length (q13 (by omega)) _ () false (fun i hi hp=>?_) (fun i hi hp=>?_) ?_
 · have hb:badQ N l i=false:=by simpa using hp
   exact (hst i hi).trans (by rw [hb]; rfl)
 · have hb:badQ N l i=true:=by simpa using hp
   exact (hst i hi).trans (by rw [hb]; rfl)
 · simp (disch:=omega) only [q7f,ckB_ix,q6,q5,qc,ckB_mk,ckB_ne,bif_lt,q8,bif_le,qa,bif_eq,q9,bif_ne,q7,qb,q4,q0,bnd_ok,lk_inl,lk_inr,Int.toNat_natCast,decide_true]
theorem bif_id {b:Bool}:(lk (bif b then (.inl ():Unit⊕Bool) else .inr false) (fun _=>some true) fun r=>some r)=some b:=by cases b<;>rfl
theorem qby (n:Net) (l:List Int) (h:l.length≤1000000):q5b n l=some (setB n.1 l):=by
 unfold q5b setB
 rw [qsm n.1 n.2.1 n.2.2.1 n.2.2.2.1 l h,bnd_ok,bif_id]
structure Small (n:Net):Prop where
 trans:n.2.1.length≤100
 ins:∀ t∈n.2.1,t.2.1.length≤50
 outs:∀ t∈n.2.1,t.2.2.1.length≤50
def badT (N:Int) (t:Trans):Bool:=!eqS t.1 ⟨#[]⟩&&!nameB t.1||!setB N t.2.1||!setB N t.2.2.1
def validN (n:Net):Bool:=decide (1≤n.1)&&decide (n.1≤40)&&decide (n.2.1.length≤60)&&!n.2.1.any (badT n.1)&&(decide (0≤n.2.2.1)&&decide (n.2.2.1 < n.1))&&(decide (0≤n.2.2.2.1)&&decide (n.2.2.2.1 < n.1))
theorem qzo (N x:Int):setB N [x]=(decide (0≤x)&&decide (x < N)):=by
 unfold setB badQ
 rw [Bool.eq_iff_iff]
 simp
theorem qtn {n:Net} (h:Small n):q85 n=some (validN n):=by
 have hL:qqe n.2.1 (n.2.1.length:Int) n.1 n.2.1 n.2.2.1 n.2.2.2.1 0=some (bif n.2.1.any (badT n.1) then .inr false else .inl ()):=by
   have hl:=h.trans
   refine qpc n.2.1 Trans.z (badT n.1) false (by omega) (fun i hi=>?_) ?_
   · have h1:=h.ins _ (qq Trans.z hi)
     have h2:=h.outs _ (qq Trans.z hi)
     unfold badT
     simp (disch:=omega) only [q16t,qdc,q14c,ckB_ix,q6,q5,qc,ckB_mk,ckB_ne,bif_lt,q8,bif_le,qa,bif_eq,q9,bif_ne,q7,qb,q4,q0,bnd_ok,lk_inl,lk_inr,Int.toNat_natCast,decide_true]
     rw [qby _ _ (by omega),qby _ _ (by omega),qg]
     simp only [bnd_ok]
     cases eqS (n.2.1.getD i Trans.z).1 ⟨#[]⟩<;>cases nameB (n.2.1.getD i Trans.z).1<;>cases setB n.1 (n.2.1.getD i Trans.z).2.1<;>cases setB n.1 (n.2.1.getD i Trans.z).2.2.1<;>rfl
   · simp (disch:=omega) only [qdc,ckB_ix,q6,q5,qc,ckB_mk,ckB_ne,bif_lt,q8,bif_le,qa,bif_eq,q9,bif_ne,q7,qb,q4,q0,bnd_ok,lk_inl,lk_inr,Int.toNat_natCast,decide_true]
 unfold q85 validN
 rw [hL,qby _ _ (by simp),qby _ _ (by simp),qzo,qzo]
 have e1:decide (1≤n.1)=!decide (n.1 < 1):=by rw [Bool.eq_iff_iff]; simp
 have e2:decide (n.1≤40)=!decide (40 < n.1):=by rw [Bool.eq_iff_iff]; simp
 have e3:decide (n.2.1.length≤60)=!decide ((60:Int) < (n.2.1.length:Int)):=by rw [Bool.eq_iff_iff]; simp; omega
 rw [e1,e2,e3]
 cases decide (n.1 < 1)<;>cases decide (40 < n.1)<;>cases decide ((60:Int) < (n.2.1.length:Int))<;>cases n.2.1.any (badT n.1)<;>cases (decide (0≤n.2.2.1)&&decide (n.2.2.1 < n.1))<;>cases (decide (0≤n.2.2.2.1)&&decide (n.2.2.2.1 < n.1))<;>rfl
theorem qli {N:Int} {l:List Int}:setB N l=true↔(∀ x∈l,0≤x∧x < N)∧l.Pairwise (· < ·):=by
 unfold setB
 rw [List.all_eq_true]
 constructor
 · intro h
   have hq:∀ i,i < l.length→(0≤l.getD i 0∧l.getD i 0 < N)∧(0 < i→l.getD (i - 1) 0 < l.getD i 0):=fun i hi=>by
     have:=h i (List.mem_range.2 hi)
     unfold badQ at this
     simp only [Bool.not_eq_true',Bool.or_eq_false_iff,Bool.and_eq_false_iff,decide_eq_false_iff_not] at this
     refine ⟨by omega,fun h0=>?_⟩
     rcases this.2 with h1 | h1
     · exact absurd h0 h1
     · omega
   refine ⟨fun x hx=>?_,List.pairwise_iff_getElem.2 fun i j hi hj hij=>?_⟩
   · obtain ⟨i,hi,rfl⟩:=ql9 0 hx
     exact (hq i hi).1
   · have key:∀ d,∀ j,j=i+1+d→j < l.length→l.getD i 0 < l.getD j 0:=by
       intro d
       induction d with
       | zero => intro j hj hl; subst hj; exact (hq (i+1) hl).2 (by omega)
       | succ d ih =>
         intro j hj hl
         have h1:=ih (i+1+d) rfl (by omega)
         have h2:=(hq j hl).2 (by omega)
         rw [show j - 1=i+1+d by omega] at h2
         omega
     have:=key (j - i - 1) j (by omega) hj
     rwa [qb3 l i 0 hi,qb3 l j 0 hj] at this
 · rintro ⟨h1,h2⟩ i hi
   have hi:=List.mem_range.1 hi
   have hb:=h1 _ (qq 0 hi)
   unfold badQ
   simp only [Bool.not_eq_true',Bool.or_eq_false_iff,Bool.and_eq_false_iff,decide_eq_false_iff_not]
   refine ⟨by omega,?_⟩
   by_cases h0:0 < i
   · right
     have:=List.pairwise_iff_getElem.1 h2 (i - 1) i (by omega) hi (by omega)
     rw [qb3 l i 0 hi,qb3 l (i - 1) 0 (by omega)]
     omega
   · exact .inl h0
theorem qbc (l:List Int) (h:l.length≤1000000):q20 l=some l:=by
 unfold q20 q6s
 simp (disch:=omega) only [List.nil_append,ckB_ix,q6,q5,qc,ckB_mk,ckB_ne,bif_lt,q8,bif_le,qa,bif_eq,q9,bif_ne,q7,qb,q4,q0,bnd_ok,lk_inl,lk_inr,Int.toNat_natCast,decide_true]
theorem q12z {α Rr:Type} {step:Int→Option (LR Int Unit Rr)} (l:List α) (d:α) (q:α→Bool) (g:Nat→Rr) (hl:l.length≤9223372036854775807)
   (h:∀ i:Nat,i < l.length→step (i:Int)=some (bif q (l.getD i d) then .ret (g i) else .next ((i+1:Nat):Int))) (hd:step (l.length:Int)=some (.done ())) :
   loopM step 0=some (fOut g (fidx q l)):=by
 cases hf:fidx q l with
 | none =>
   refine qgr (fun i:Nat=>(i:Int)) l.length (by unfold many; omega) (.inl ()) (fun i hi=>?_) hd
   rw [h i hi,qra hf _ (qq d hi)]; rfl
 | some k =>
   obtain ⟨h1,h2,h3⟩:=qr1 d hf
   refine qpj (fun i:Nat=>(i:Int)) k (by unfold many; omega) (.ret (g k)) (.inr (g k)) rfl (fun i hi=>?_) ?_
   · rw [h i (by omega),h3 i hi]; rfl
   · rw [h k h1,h2]; rfl
def incB (t:Trans) (p:Int):Int:=(if memB t.2.2.1 p then 1 else 0) - (if memB t.2.1 p then 1 else 0)
theorem q124 (t:Trans) (p:Int) : -1≤incB t p∧incB t p≤1:=by unfold incB; repeat' split<;>omega
theorem qx9 (t:Trans) (p:Int) (h1:t.2.1.length≤1000000) (h2:t.2.2.1.length≤1000000):q82 t p=some (incB t p):=by
 unfold q82 incB
 rw [qsy _ h1,qsy _ h2]
 cases memB t.2.1 p<;>cases memB t.2.2.1 p<;>rfl
theorem few_eq (n:Net) (hl:n.2.1.length≤9223372036854775807):∃ b,qlx n=some b∧(b=true→Small n∧((n.1≤12∧n.2.1.length≤14)∨20 < n.1∨20 < n.2.1.length)):=by
 have h1:∀ t:Trans,qi5 t=some (decide ((45:Int) < (t.2.1.length:Int))||decide ((45:Int) < (t.2.2.1.length:Int))||decide ((100:Int) < (t.1.size:Int))):=fun t=>by
   unfold qi5
   cases decide ((45:Int) < (t.2.1.length:Int))<;>cases decide ((45:Int) < (t.2.2.1.length:Int))<;>rfl
 have hC:q1h n.2.1=some (n.2.1.any fun t=>decide ((45:Int) < (t.2.1.length:Int))||decide ((45:Int) < (t.2.2.1.length:Int))||decide ((100:Int) < (t.1.size:Int))):=by
   have hL:q56 n.2.1 (n.2.1.length:Int) 0=some (fOut (fun i=>(i:Int)) (fidx (fun t:Trans=>decide ((45:Int) < (t.2.1.length:Int))||decide ((45:Int) < (t.2.2.1.length:Int))||decide ((100:Int) < (t.1.size:Int))) n.2.1)):=by
     refine q12z n.2.1 Trans.z (fun t:Trans=>decide ((45:Int) < (t.2.1.length:Int))||decide ((45:Int) < (t.2.2.1.length:Int))||decide ((100:Int) < (t.1.size:Int))) (fun i=>(i:Int)) hl (fun i hi=>?_) ?_
     · simp (disch:=omega) only [q1i,h1,ckB_ix,q6,q5,qc,ckB_mk,ckB_ne,bif_lt,q8,bif_le,qa,bif_eq,q9,bif_ne,q7,qb,q4,q0,bnd_ok,lk_inl,lk_inr,Int.toNat_natCast,decide_true]
       rw [qg]
       exact q15e
     · simp (disch:=omega) only [q1i,ckB_ix,q6,q5,qc,ckB_mk,ckB_ne,bif_lt,q8,bif_le,qa,bif_eq,q9,bif_ne,q7,qb,q4,q0,bnd_ok,lk_inl,lk_inr,Int.toNat_natCast,decide_true]
   unfold q1h q2s
   rw [hL,bnd_ok,qi2,bnd_ok,qhf]
 have hF:n.2.1.length≤100→(n.2.1.any fun t=>decide ((45:Int) < (t.2.1.length:Int))||decide ((45:Int) < (t.2.2.1.length:Int))||decide ((100:Int) < (t.1.size:Int)))=false→Small n:=fun hl ha=>by
   have key:∀ t∈n.2.1,t.2.1.length≤50∧t.2.2.1.length≤50:=fun t ht=>by
     have:=List.any_eq_false.1 ha t ht
     simp only [Bool.or_eq_true,decide_eq_true_eq,not_or] at this
     omega
   exact ⟨hl,fun t ht=>(key t ht).1,fun t ht=>(key t ht).2⟩
 unfold qlx
 rw [hC,bnd_ok]
 cases ha:(n.2.1.any fun t=>decide ((45:Int) < (t.2.1.length:Int))||decide ((45:Int) < (t.2.2.1.length:Int))||decide ((100:Int) < (t.1.size:Int))) with
 | true => exact ⟨false,rfl,fun h=>by cases h⟩
 | false =>
   simp only [cond_false]
   by_cases h100:(100:Int) < (n.2.1.length:Int)
   · exact ⟨false,by simp (disch:=omega) only [ckB_ix,q6,q5,qc,ckB_mk,ckB_ne,bif_lt,q8,bif_le,qa,bif_eq,q9,bif_ne,q7,qb,q4,q0,bnd_ok,lk_inl,lk_inr,Int.toNat_natCast,decide_true],fun h=>by cases h⟩
   · have hS:=hF (by omega) ha
     by_cases hp:n.1≤12
     · by_cases ht:(n.2.1.length:Int)≤14
       · exact ⟨true,by simp (disch:=omega) only [ckB_ix,q6,q5,qc,ckB_mk,ckB_ne,bif_lt,q8,bif_le,qa,bif_eq,q9,bif_ne,q7,qb,q4,q0,bnd_ok,lk_inl,lk_inr,Int.toNat_natCast,decide_true],fun _=>⟨hS,.inl ⟨hp,by omega⟩⟩⟩
       · by_cases h20:(20:Int) < n.1
         · omega
         · refine ⟨decide ((20:Int) < (n.2.1.length:Int)),by simp (disch:=omega) only [ckB_ix,q6,q5,qc,ckB_mk,ckB_ne,bif_lt,q8,bif_le,qa,bif_eq,q9,bif_ne,q7,qb,q4,q0,bnd_ok,lk_inl,lk_inr,Int.toNat_natCast,decide_true],fun h=>⟨hS,?_⟩⟩
           have:=of_decide_eq_true h
           omega
     · by_cases h20:(20:Int) < n.1
       · exact ⟨true,by simp (disch:=omega) only [ckB_ix,q6,q5,qc,ckB_mk,ckB_ne,bif_lt,q8,bif_le,qa,bif_eq,q9,bif_ne,q7,qb,q4,q0,bnd_ok,lk_inl,lk_inr,Int.toNat_natCast,decide_true],fun _=>⟨hS,by omega⟩⟩
       · refine ⟨decide ((20:Int) < (n.2.1.length:Int)),by simp (disch:=omega) only [ckB_ix,q6,q5,qc,ckB_mk,ckB_ne,bif_lt,q8,bif_le,qa,bif_eq,q9,bif_ne,q7,qb,q4,q0,bnd_ok,lk_inl,lk_inr,Int.toNat_natCast,decide_true],fun h=>⟨hS,?_⟩⟩
         have:=of_decide_eq_true h
         omega
end Go.Proofs.Ythakmiiaejhlbaa
