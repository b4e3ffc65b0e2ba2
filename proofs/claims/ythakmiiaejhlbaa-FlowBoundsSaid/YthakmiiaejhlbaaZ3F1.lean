/-
  Flow: names, lists of places, nets, incidences: the program and the reference reckon alike.
-/
import Derived.Test.YthakmiiaejhlbaaZ3Md
import Derived.Test.YthakmiiaejhlbaaZ3KE
import Derived.KernelRfl
set_option linter.all false
namespace Go.Proofs.Ythakmiiaejhlbaa
open Go.K Go.M
theorem q14s:qns=some true:=by kernel_rfl
def eqS (a b:ByteArray):Bool:=ByteArray.toList a == ByteArray.toList b
theorem q13p (a b:ByteArray):(ByteArray.toList a == ByteArray.toList b)=eqS a b:=rfl
def letB (c:Int):Bool:=decide (65≤c)&&decide (c≤90)||decide (97≤c)&&decide (c≤122)
def partB (c:Int):Bool:=letB c||decide (48≤c)&&decide (c≤57)||decide (c=95)||decide (c=45)||decide (c=46)
abbrev byt (s:ByteArray) (i:Nat):Int:=((ByteArray.data s).getD i 0).toNat
theorem qzq (c:Int):qdi c=some (letB c):=by
 unfold qdi letB
 cases decide ((65:Int)≤c)<;>cases decide (c≤(90:Int))<;>cases decide ((97:Int)≤c)<;>cases decide (c≤(122:Int))<;>rfl
theorem qlg (c:Int):qbk c=some (letB c):=by
 unfold qbk letB
 cases decide ((65:Int)≤c)<;>cases decide (c≤(90:Int))<;>cases decide ((97:Int)≤c)<;>cases decide (c≤(122:Int))<;>rfl
theorem q141 (c:Int):qm9 c=some (partB c):=by
 unfold qm9 partB
 rw [qzq,bnd_ok]
 cases letB c<;>cases decide ((48:Int)≤c)<;>cases decide (c≤(57:Int))<;>cases decide (c=(95:Int))<;>cases decide (c=(45:Int))<;>cases decide (c=(46:Int))<;>rfl
def nameB (s:ByteArray):Bool:=decide (1≤s.size)&&decide (s.size≤40)&&letB (byt s 0)&&(List.range s.size).all fun i=>partB (byt s i)
theorem q16v (s:ByteArray):qhl s=some (nameB s):=by
 unfold qhl nameB
 by_cases h1:(s.size:Int) < 1
 · have:¬ 1≤s.size:=by omega
   simp (disch:=omega) only [ckB_ix,q7,q6,qd,ckB_mk,ckB_ne,bif_lt,q9,bif_le,qb,bif_eq,q8,bif_ne,qa,qc,q5,q4,bnd_ok,lk_inl,lk_inr,Int.toNat_natCast,decide_true]
   rw [decide_eq_false this]; rfl
 · have h1':1≤s.size:=by omega
   rw [decide_eq_true h1']
   by_cases h2:40 < (s.size:Int)
   · have:¬ s.size≤40:=by omega
     simp (disch:=omega) only [ckB_ix,q7,q6,qd,ckB_mk,ckB_ne,bif_lt,q9,bif_le,qb,bif_eq,q8,bif_ne,qa,qc,q5,q4,bnd_ok,lk_inl,lk_inr,Int.toNat_natCast,decide_true]
     rw [decide_eq_false this]; rfl
   · have h2':s.size≤40:=by omega
     rw [decide_eq_true h2']
     have hL:qrk s (s.size:Int) 0=some (bif (List.range s.size).all (fun i=>partB (byt s i)) then .inl () else .inr false):=by
       refine qgq (fun i:Nat=>(i:Int)) s.size (q11 (by omega)) _ () false ?_ ?_ ?_
       · intro i hi hp
         simp (disch:=omega) only [q9q,q141,hp,Bool.not_true,ckB_ix,q7,q6,qd,ckB_mk,ckB_ne,bif_lt,q9,bif_le,qb,bif_eq,q8,bif_ne,qa,qc,q5,q4,bnd_ok,lk_inl,lk_inr,Int.toNat_natCast,decide_true]
         rw [qf]
       · intro i hi hp
         simp (disch:=omega) only [q9q,q141,hp,Bool.not_false,ckB_ix,q7,q6,qd,ckB_mk,ckB_ne,bif_lt,q9,bif_le,qb,bif_eq,q8,bif_ne,qa,qc,q5,q4,bnd_ok,lk_inl,lk_inr,Int.toNat_natCast,decide_true]
       · simp (disch:=omega) only [q9q,ckB_ix,q7,q6,qd,ckB_mk,ckB_ne,bif_lt,q9,bif_le,qb,bif_eq,q8,bif_ne,qa,qc,q5,q4,bnd_ok,lk_inl,lk_inr,Int.toNat_natCast,decide_true]
     simp (disch:=omega) only [qzq,hL,ckB_ix,q7,q6,qd,ckB_mk,ckB_ne,bif_lt,q9,bif_le,qb,bif_eq,q8,bif_ne,qa,qc,q5,q4,bnd_ok,lk_inl,lk_inr,Int.toNat_natCast,decide_true]
     cases letB (byt s 0) with
     | false => rfl
     | true => cases (List.range s.size).all (fun i=>partB (byt s i))<;>rfl
theorem qy6 (n:Nat) (p:Nat→Bool):(List.range (n+1)).all p=(p 0&&(List.range n).all fun i=>p (i+1)):=by
 rw [List.range_succ_eq_map,List.all_cons,List.all_map]
 rfl
theorem q11r (s:ByteArray):qfo s=some (nameB s):=by
 unfold qfo nameB
 by_cases h1:(s.size:Int) < 1
 · have:¬ 1≤s.size:=by omega
   simp (disch:=omega) only [ckB_ix,q7,q6,qd,ckB_mk,ckB_ne,bif_lt,q9,bif_le,qb,bif_eq,q8,bif_ne,qa,qc,q5,q4,bnd_ok,lk_inl,lk_inr,Int.toNat_natCast,decide_true]
   rw [decide_eq_false this]; rfl
 · have h1':1≤s.size:=by omega
   rw [decide_eq_true h1']
   by_cases h2:40 < (s.size:Int)
   · have:¬ s.size≤40:=by omega
     simp (disch:=omega) only [ckB_ix,q7,q6,qd,ckB_mk,ckB_ne,bif_lt,q9,bif_le,qb,bif_eq,q8,bif_ne,qa,qc,q5,q4,bnd_ok,lk_inl,lk_inr,Int.toNat_natCast,decide_true]
     rw [decide_eq_false this]; rfl
   · have h2':s.size≤40:=by omega
     rw [decide_eq_true h2']
     have hL:qoh s 1=some (bif (List.range (s.size - 1)).all (fun i=>partB (byt s (i+1))) then .inl () else .inr false):=by
       refine qgq (fun i:Nat=>((i+1:Nat):Int)) (s.size - 1) (q11 (by omega)) _ () false ?_ ?_ ?_
       · intro i hi hp
         unfold partB at hp
         simp (disch:=omega) only [q8o,qlg,ckB_ix,q7,q6,qd,ckB_mk,ckB_ne,bif_lt,q9,bif_le,qb,bif_eq,q8,bif_ne,qa,qc,q5,q4,bnd_ok,lk_inl,lk_inr,Int.toNat_natCast,decide_true]
         rw [qf]
         revert hp
         cases letB (byt s (i+1))<;>cases decide ((48:Int)≤byt s (i+1))<;>cases decide (byt s (i+1)≤(57:Int))<;>cases decide (byt s (i+1)=(95:Int))<;>cases decide (byt s (i+1)=(45:Int))<;>cases decide (byt s (i+1)=(46:Int))<;>intro hp<;>first | rfl | cases hp
       · intro i hi hp
         unfold partB at hp
         simp (disch:=omega) only [q8o,qlg,ckB_ix,q7,q6,qd,ckB_mk,ckB_ne,bif_lt,q9,bif_le,qb,bif_eq,q8,bif_ne,qa,qc,q5,q4,bnd_ok,lk_inl,lk_inr,Int.toNat_natCast,decide_true]
         revert hp
         cases letB (byt s (i+1))<;>cases decide ((48:Int)≤byt s (i+1))<;>cases decide (byt s (i+1)≤(57:Int))<;>cases decide (byt s (i+1)=(95:Int))<;>cases decide (byt s (i+1)=(45:Int))<;>cases decide (byt s (i+1)=(46:Int))<;>intro hp<;>first | rfl | cases hp
       · have e:s.size - 1+1=s.size:=by omega
         rw [e]
         simp (disch:=omega) only [q8o,ckB_ix,q7,q6,qd,ckB_mk,ckB_ne,bif_lt,q9,bif_le,qb,bif_eq,q8,bif_ne,qa,qc,q5,q4,bnd_ok,lk_inl,lk_inr,Int.toNat_natCast,decide_true]
     simp (disch:=omega) only [qlg,hL,ckB_ix,q7,q6,qd,ckB_mk,ckB_ne,bif_lt,q9,bif_le,qb,bif_eq,q8,bif_ne,qa,qc,q5,q4,bnd_ok,lk_inl,lk_inr,Int.toNat_natCast,decide_true]
     have e:s.size=s.size - 1+1:=by omega
     have e2:(List.range s.size).all (fun i=>partB (byt s i))=(partB (byt s 0)&&(List.range (s.size - 1)).all fun i=>partB (byt s (i+1))):=by
       conv=>lhs; rw [e]
       exact qy6 _ _
     rw [e2]
     have e3:letB (byt s 0)=true→partB (byt s 0)=true:=fun h=>by unfold partB; rw [h]; rfl
     cases h:letB (byt s 0) with
     | false => rfl
     | true =>
       rw [e3 h]
       cases (List.range (s.size - 1)).all (fun i=>partB (byt s (i+1)))<;>rfl
def memB (l:List Int) (x:Int):Bool:=l.any fun y=>decide (x=y)
theorem quf (l:List Int) (h:l.length≤1000000) (x:Int):q3m l x=some (memB l x):=by
 have hL:qd8 l x (l.length:Int) 0=some (fOut (fun i=>(i:Int)) (fidx (fun y=>decide (x=y)) l)):=by
   refine qhv l 0 (fun y=>decide (x=y)) (fun i=>(i:Int)) (by omega) (fun i hi=>?_) ?_
   · simp (disch:=omega) only [q5e,ckB_ix,q7,q6,qd,ckB_mk,ckB_ne,bif_lt,q9,bif_le,qb,bif_eq,q8,bif_ne,qa,qc,q5,q4,bnd_ok,lk_inl,lk_inr,Int.toNat_natCast,decide_true]
     rw [qf]
     cases decide (x=l.getD i 0)<;>rfl
   · simp (disch:=omega) only [q5e,ckB_ix,q7,q6,qd,ckB_mk,ckB_ne,bif_lt,q9,bif_le,qb,bif_eq,q8,bif_ne,qa,qc,q5,q4,bnd_ok,lk_inl,lk_inr,Int.toNat_natCast,decide_true]
 unfold q3m qag
 rw [hL,bnd_ok,qom,bnd_ok,qp5]
 rfl
theorem Has_eq (l:List Int) (h:l.length≤1000000) (x:Int):qi1 l x=some (memB l x):=by
 have hL:quu l x 0=some (bif l.any (fun y=>decide (y=x)) then .inr true else .inl ()):=by
   refine q8m l 0 (fun y=>decide (y=x)) true (by omega) (fun i hi=>?_) ?_
   · simp (disch:=omega) only [qfy,ckB_ix,q7,q6,qd,ckB_mk,ckB_ne,bif_lt,q9,bif_le,qb,bif_eq,q8,bif_ne,qa,qc,q5,q4,bnd_ok,lk_inl,lk_inr,Int.toNat_natCast,decide_true]
     rw [qf]
     cases decide (l.getD i 0=x)<;>rfl
   · simp (disch:=omega) only [qfy,ckB_ix,q7,q6,qd,ckB_mk,ckB_ne,bif_lt,q9,bif_le,qb,bif_eq,q8,bif_ne,qa,qc,q5,q4,bnd_ok,lk_inl,lk_inr,Int.toNat_natCast,decide_true]
 unfold qi1 memB
 have e:(l.any fun y=>decide (x=y))=l.any fun y=>decide (y=x):=q15d fun y _=>decide_eq_decide.2 ⟨Eq.symm,Eq.symm⟩
 rw [hL,bnd_ok,e]
 cases l.any (fun y=>decide (y=x))<;>rfl
def badQ (N:Int) (l:List Int) (i:Nat):Bool:=decide (l.getD i 0 < 0)||decide (N≤l.getD i 0)||decide (0 < i)&&decide (l.getD i 0≤l.getD (i - 1) 0)
def setB (N:Int) (l:List Int):Bool:=(List.range l.length).all fun i=>!badQ N l i
theorem qu6 (N:Int) (ts:List Trans) (a b:Int) (l:List Int) (h:l.length≤1000000):qpm l l (l.length:Int) N ts a b 0=some (bif (List.range l.length).all (fun i=>!badQ N l i) then .inl () else .inr false):=by
 have hst:∀ i:Nat,i < l.length→q6k l l (l.length:Int) N ts a b (R:=LR Int Unit Bool) (i:Int) (fun a'=>some (.next a')) (fun e=>some (.done e)) (fun r=>some (.ret r))=some (bif badQ N l i then .ret false else .next ((i+1:Nat):Int)):=fun i hi=>by
   unfold badQ
   by_cases h0:0 < i
   · have e:(i:Int) - 1=((i - 1:Nat):Int):=by omega
     have h0':(0:Int) < (i:Int):=by omega
     rw [decide_eq_true h0]
     simp (disch:=omega) only [q6k,e,ckB_ix,q7,q6,qd,ckB_mk,ckB_ne,bif_lt,q9,bif_le,qb,bif_eq,q8,bif_ne,qa,qc,q5,q4,bnd_ok,lk_inl,lk_inr,Int.toNat_natCast,decide_true]
     rw [qf]
     cases decide (l.getD i 0 < 0)<;>cases decide (N≤l.getD i 0)<;>cases decide (l.getD i 0≤l.getD (i - 1) 0)<;>rfl
   · have h0':¬ (0:Int) < (i:Int):=by omega
     rw [decide_eq_false h0]
     simp (disch:=omega) only [q6k,ckB_ix,q7,q6,qd,ckB_mk,ckB_ne,bif_lt,q9,bif_le,qb,bif_eq,q8,bif_ne,qa,qc,q5,q4,bnd_ok,lk_inl,lk_inr,Int.toNat_natCast,decide_true]
     rw [qf]
     cases decide (l.getD i 0 < 0)<;>cases decide (N≤l.getD i 0)<;>rfl
 refine qgq (fun i:Nat=>(i:Int)) l.length (q11 (by omega)) _ () false (fun i hi hp=>?_) (fun i hi hp=>?_) ?_
 · have hb:badQ N l i=false:=by simpa using hp
   exact (hst i hi).trans (by rw [hb]; rfl)
 · have hb:badQ N l i=true:=by simpa using hp
   exact (hst i hi).trans (by rw [hb]; rfl)
 · simp (disch:=omega) only [q6k,ckB_ix,q7,q6,qd,ckB_mk,ckB_ne,bif_lt,q9,bif_le,qb,bif_eq,q8,bif_ne,qa,qc,q5,q4,bnd_ok,lk_inl,lk_inr,Int.toNat_natCast,decide_true]
theorem qub (N:Int) (ts:List Trans) (a b:Int) (l:List Int) (h:l.length≤1000000):qpg N l 0=some (bif (List.range l.length).all (fun i=>!badQ N l i) then .inl () else .inr false):=by
 have hst:∀ i:Nat,i < l.length→q6l N l (R:=LR Int Unit Bool) (i:Int) (fun a'=>some (.next a')) (fun e=>some (.done e)) (fun r=>some (.ret r))=some (bif badQ N l i then .ret false else .next ((i+1:Nat):Int)):=fun i hi=>by
   unfold badQ
   by_cases h0:0 < i
   · have e:(i:Int) - 1=((i - 1:Nat):Int):=by omega
     have h0':(0:Int) < (i:Int):=by omega
     rw [decide_eq_true h0]
     simp (disch:=omega) only [q6l,e,ckB_ix,q7,q6,qd,ckB_mk,ckB_ne,bif_lt,q9,bif_le,qb,bif_eq,q8,bif_ne,qa,qc,q5,q4,bnd_ok,lk_inl,lk_inr,Int.toNat_natCast,decide_true]
     rw [qf]
     cases decide (l.getD i 0 < 0)<;>cases decide (N≤l.getD i 0)<;>cases decide (l.getD i 0≤l.getD (i - 1) 0)<;>rfl
   · have h0':¬ (0:Int) < (i:Int):=by omega
     rw [decide_eq_false h0]
     simp (disch:=omega) only [q6l,ckB_ix,q7,q6,qd,ckB_mk,ckB_ne,bif_lt,q9,bif_le,qb,bif_eq,q8,bif_ne,qa,qc,q5,q4,bnd_ok,lk_inl,lk_inr,Int.toNat_natCast,decide_true]
     rw [qf]
     cases decide (l.getD i 0 < 0)<;>cases decide (N≤l.getD i 0)<;>rfl
 refine qgq (fun i:Nat=>(i:Int)) l.length (q11 (by omega)) _ () false (fun i hi hp=>?_) (fun i hi hp=>?_) ?_
 · have hb:badQ N l i=false:=by simpa using hp
   exact (hst i hi).trans (by rw [hb]; rfl)
 · have hb:badQ N l i=true:=by simpa using hp
   exact (hst i hi).trans (by rw [hb]; rfl)
 · simp (disch:=omega) only [q6l,ckB_ix,q7,q6,qd,ckB_mk,ckB_ne,bif_lt,q9,bif_le,qb,bif_eq,q8,bif_ne,qa,qc,q5,q4,bnd_ok,lk_inl,lk_inr,Int.toNat_natCast,decide_true]
theorem bif_id {b:Bool}:(lk (bif b then (.inl ():Unit⊕Bool) else .inr false) (fun _=>some true) fun r=>some r)=some b:=by cases b<;>rfl
theorem qb2 (n:Net) (l:List Int) (h:l.length≤1000000):q4u n l=some (setB n.1 l):=by
 unfold q4u setB
 rw [qu6 n.1 n.2.1 n.2.2.1 n.2.2.2.1 l h,bnd_ok,bif_id]
theorem qmz (N:Int) (l:List Int) (h:l.length≤1000000):q7u N l=some (setB N l):=by
 unfold q7u setB
 rw [qub N [] 0 0 l h,bnd_ok,bif_id]
structure Small (n:Net):Prop where
 trans:n.2.1.length≤100
 ins:∀ t∈n.2.1,t.2.1.length≤50
 outs:∀ t∈n.2.1,t.2.2.1.length≤50
def badT (N:Int) (t:Trans):Bool:=!eqS t.1 ⟨#[]⟩&&!nameB t.1||!setB N t.2.1||!setB N t.2.2.1
def validN (n:Net):Bool:=decide (1≤n.1)&&decide (n.1≤40)&&decide (n.2.1.length≤60)&&!n.2.1.any (badT n.1)&&(decide (0≤n.2.2.1)&&decide (n.2.2.1 < n.1))&&(decide (0≤n.2.2.2.1)&&decide (n.2.2.2.1 < n.1))
theorem q11v (N x:Int):setB N [x]=(decide (0≤x)&&decide (x < N)):=by
 unfold setB badQ
 rw [Bool.eq_iff_iff]
 simp
theorem q127 {n:Net} (h:Small n):q96 n=some (validN n):=by
 have hL:qrg n.2.1 (n.2.1.length:Int) n.1 n.2.1 n.2.2.1 n.2.2.2.1 0=some (bif n.2.1.any (badT n.1) then .inr false else .inl ()):=by
   have hl:=h.trans
   refine q8m n.2.1 Trans.z (badT n.1) false (by omega) (fun i hi=>?_) ?_
   · have h1:=h.ins _ (qr Trans.z hi)
     have h2:=h.outs _ (qr Trans.z hi)
     unfold badT
     simp (disch:=omega) only [q13p,qc6,q16v,ckB_ix,q7,q6,qd,ckB_mk,ckB_ne,bif_lt,q9,bif_le,qb,bif_eq,q8,bif_ne,qa,qc,q5,q4,bnd_ok,lk_inl,lk_inr,Int.toNat_natCast,decide_true]
     rw [qb2 _ _ (by omega),qb2 _ _ (by omega),qf]
     simp only [bnd_ok]
     cases eqS (n.2.1.getD i Trans.z).1 ⟨#[]⟩<;>cases nameB (n.2.1.getD i Trans.z).1<;>cases setB n.1 (n.2.1.getD i Trans.z).2.1<;>cases setB n.1 (n.2.1.getD i Trans.z).2.2.1<;>rfl
   · simp (disch:=omega) only [qc6,ckB_ix,q7,q6,qd,ckB_mk,ckB_ne,bif_lt,q9,bif_le,qb,bif_eq,q8,bif_ne,qa,qc,q5,q4,bnd_ok,lk_inl,lk_inr,Int.toNat_natCast,decide_true]
 unfold q96 validN
 rw [hL,qb2 _ _ (by simp),qb2 _ _ (by simp),q11v,q11v]
 have e1:decide (1≤n.1)=!decide (n.1 < 1):=by rw [Bool.eq_iff_iff]; simp
 have e2:decide (n.1≤40)=!decide (40 < n.1):=by rw [Bool.eq_iff_iff]; simp
 have e3:decide (n.2.1.length≤60)=!decide ((60:Int) < (n.2.1.length:Int)):=by rw [Bool.eq_iff_iff]; simp; omega
 rw [e1,e2,e3]
 cases decide (n.1 < 1)<;>cases decide (40 < n.1)<;>cases decide ((60:Int) < (n.2.1.length:Int))<;>cases n.2.1.any (badT n.1)<;>cases (decide (0≤n.2.2.1)&&decide (n.2.2.1 < n.1))<;>cases (decide (0≤n.2.2.2.1)&&decide (n.2.2.2.1 < n.1))<;>rfl
theorem qv3 {n:Net} (h:Small n):qd5 n=some (validN n):=by
 have hL:qqz n.1 n.2.1 n.2.2.1 n.2.2.2.1 0=some (bif n.2.1.any (badT n.1) then .inr false else .inl ()):=by
   have hl:=h.trans
   refine q8m n.2.1 Trans.z (badT n.1) false (by omega) (fun i hi=>?_) ?_
   · have h1:=h.ins _ (qr Trans.z hi)
     have h2:=h.outs _ (qr Trans.z hi)
     unfold badT
     simp (disch:=omega) only [q13p,qcj,q11r,ckB_ix,q7,q6,qd,ckB_mk,ckB_ne,bif_lt,q9,bif_le,qb,bif_eq,q8,bif_ne,qa,qc,q5,q4,bnd_ok,lk_inl,lk_inr,Int.toNat_natCast,decide_true]
     rw [qmz _ _ (by omega),qmz _ _ (by omega),qf]
     simp only [bnd_ok]
     cases eqS (n.2.1.getD i Trans.z).1 ⟨#[]⟩<;>cases nameB (n.2.1.getD i Trans.z).1<;>cases setB n.1 (n.2.1.getD i Trans.z).2.1<;>cases setB n.1 (n.2.1.getD i Trans.z).2.2.1<;>rfl
   · simp (disch:=omega) only [qcj,ckB_ix,q7,q6,qd,ckB_mk,ckB_ne,bif_lt,q9,bif_le,qb,bif_eq,q8,bif_ne,qa,qc,q5,q4,bnd_ok,lk_inl,lk_inr,Int.toNat_natCast,decide_true]
 unfold qd5 validN
 rw [hL]
 have e1:decide (1≤n.1)=!decide (n.1 < 1):=by rw [Bool.eq_iff_iff]; simp
 have e2:decide (n.1≤40)=!decide (40 < n.1):=by rw [Bool.eq_iff_iff]; simp
 have e3:decide (n.2.1.length≤60)=!decide ((60:Int) < (n.2.1.length:Int)):=by rw [Bool.eq_iff_iff]; simp; omega
 have e4:∀ x:Int,decide (0≤x)=!decide (x < 0):=fun x=>by rw [Bool.eq_iff_iff]; simp
 have e5:∀ x:Int,decide (x < n.1)=!decide (n.1≤x):=fun x=>by rw [Bool.eq_iff_iff]; simp
 rw [e1,e2,e3,e4 n.2.2.1,e4 n.2.2.2.1,e5 n.2.2.1,e5 n.2.2.2.1]
 cases decide (n.1 < 1)<;>cases decide (40 < n.1)<;>cases decide ((60:Int) < (n.2.1.length:Int))<;>cases n.2.1.any (badT n.1)<;>cases decide (n.2.2.1 < 0)<;>cases decide (n.1≤n.2.2.1)<;>cases decide (n.2.2.2.1 < 0)<;>cases decide (n.1≤n.2.2.2.1)<;>rfl
theorem q17a {N:Int} {l:List Int}:setB N l=true↔(∀ x∈l,0≤x∧x < N)∧l.Pairwise (· < ·):=by
 unfold setB
 rw [List.all_eq_true]
 constructor
 · intro h
   have hq:∀ i,i < l.length→(0≤l.getD i 0∧l.getD i 0 < N)∧(0 < i→l.getD (i - 1) 0 < l.getD i 0):=fun i hi=>by
     have:=h i (List.mem_range.2 hi)
     unfold badQ at this
     simp only [Bool.not_eq_true',Bool.or_eq_false_iff,Bool.and_eq_false_iff,decide_eq_false_iff_not] at this
     refine ⟨by omega,fun h0=>?_⟩
     rcases this.2 with h1 | h1
     · exact absurd h0 h1
     · omega
   refine ⟨fun x hx=>?_,List.pairwise_iff_getElem.2 fun i j hi hj hij=>?_⟩
   · obtain ⟨i,hi,rfl⟩:=qkb 0 hx
     exact (hq i hi).1
   · have key:∀ d,∀ j,j=i+1+d→j < l.length→l.getD i 0 < l.getD j 0:=by
       intro d
       induction d with
       | zero => intro j hj hl; subst hj; exact (hq (i+1) hl).2 (by omega)
       | succ d ih =>
         intro j hj hl
         have h1:=ih (i+1+d) rfl (by omega)
         have h2:=(hq j hl).2 (by omega)
         rw [show j - 1=i+1+d by omega] at h2
         omega
     have:=key (j - i - 1) j (by omega) hj
     rwa [qcf l i 0 hi,qcf l j 0 hj] at this
 · rintro ⟨h1,h2⟩ i hi
   have hi:=List.mem_range.1 hi
   have hb:=h1 _ (qr 0 hi)
   unfold badQ
   simp only [Bool.not_eq_true',Bool.or_eq_false_iff,Bool.and_eq_false_iff,decide_eq_false_iff_not]
   refine ⟨by omega,?_⟩
   by_cases h0:0 < i
   · right
     have:=List.pairwise_iff_getElem.1 h2 (i - 1) i (by omega) hi (by omega)
     rw [qcf l i 0 hi,qcf l (i - 1) 0 (by omega)]
     omega
   · exact .inl h0
theorem qdz (l:List Int) (h:l.length≤1000000):q2n l=some l:=by
 unfold q2n q65
 simp (disch:=omega) only [List.nil_append,ckB_ix,q7,q6,qd,ckB_mk,ckB_ne,bif_lt,q9,bif_le,qb,bif_eq,q8,bif_ne,qa,qc,q5,q4,bnd_ok,lk_inl,lk_inr,Int.toNat_natCast,decide_true]
theorem q15h {α Rr:Type} {step:Int→Option (LR Int Unit Rr)} (l:List α) (d:α) (q:α→Bool) (g:Nat→Rr) (hl:l.length≤9223372036854775807)
   (h:∀ i:Nat,i < l.length→step (i:Int)=some (bif q (l.getD i d) then .ret (g i) else .next ((i+1:Nat):Int))) (hd:step (l.length:Int)=some (.done ())) :
   loopM step 0=some (fOut g (fidx q l)):=by
 cases hf:fidx q l with
 | none =>
   refine qfr (fun i:Nat=>(i:Int)) l.length (by unfold many; omega) (.inl ()) (fun i hi=>?_) hd
   rw [h i hi,qtf hf _ (qr d hi)]; rfl
 | some k =>
   obtain ⟨h1,h2,h3⟩:=qt7 d hf
   refine qqd (fun i:Nat=>(i:Int)) k (by unfold many; omega) (.ret (g k)) (.inr (g k)) rfl (fun i hi=>?_) ?_
   · rw [h i (by omega),h3 i hi]; rfl
   · rw [h k h1,h2]; rfl
def incB (t:Trans) (p:Int):Int:=(if memB t.2.2.1 p then 1 else 0) - (if memB t.2.1 p then 1 else 0)
theorem q13h (t:Trans) (p:Int) : -1≤incB t p∧incB t p≤1:=by unfold incB; repeat' split<;>omega
theorem q16q (t:Trans) (p:Int) (h1:t.2.1.length≤1000000) (h2:t.2.2.1.length≤1000000):qaq t p=some (incB t p):=by
 unfold qaq incB
 rw [quf _ h1,quf _ h2]
 cases memB t.2.1 p<;>cases memB t.2.2.1 p<;>rfl
theorem At_eq (t:Trans) (p:Int) (h1:t.2.1.length≤1000000) (h2:t.2.2.1.length≤1000000):qqu t p=some (incB t p):=by
 unfold qqu incB
 rw [Has_eq _ h1,Has_eq _ h2]
 cases memB t.2.1 p<;>cases memB t.2.2.1 p<;>rfl
theorem few_eq (n:Net) (hl:n.2.1.length≤9223372036854775807):∃ b,qn3 n=some b∧(b=true→Small n∧((n.1≤12∧n.2.1.length≤14)∨20 < n.1∨20 < n.2.1.length)):=by
 have h1:∀ t:Trans,qhf t=some (decide ((45:Int) < (t.2.1.length:Int))||decide ((45:Int) < (t.2.2.1.length:Int))||decide ((100:Int) < (t.1.size:Int))):=fun t=>by
   unfold qhf
   cases decide ((45:Int) < (t.2.1.length:Int))<;>cases decide ((45:Int) < (t.2.2.1.length:Int))<;>rfl
 have hC:q1j n.2.1=some (n.2.1.any fun t=>decide ((45:Int) < (t.2.1.length:Int))||decide ((45:Int) < (t.2.2.1.length:Int))||decide ((100:Int) < (t.1.size:Int))):=by
   have hL:q4r n.2.1 (n.2.1.length:Int) 0=some (fOut (fun i=>(i:Int)) (fidx (fun t:Trans=>decide ((45:Int) < (t.2.1.length:Int))||decide ((45:Int) < (t.2.2.1.length:Int))||decide ((100:Int) < (t.1.size:Int))) n.2.1)):=by
     refine q15h n.2.1 Trans.z (fun t:Trans=>decide ((45:Int) < (t.2.1.length:Int))||decide ((45:Int) < (t.2.2.1.length:Int))||decide ((100:Int) < (t.1.size:Int))) (fun i=>(i:Int)) hl (fun i hi=>?_) ?_
     · simp (disch:=omega) only [q1i,h1,ckB_ix,q7,q6,qd,ckB_mk,ckB_ne,bif_lt,q9,bif_le,qb,bif_eq,q8,bif_ne,qa,qc,q5,q4,bnd_ok,lk_inl,lk_inr,Int.toNat_natCast,decide_true]
       rw [qf]
       exact q17z
     · simp (disch:=omega) only [q1i,ckB_ix,q7,q6,qd,ckB_mk,ckB_ne,bif_lt,q9,bif_le,qb,bif_eq,q8,bif_ne,qa,qc,q5,q4,bnd_ok,lk_inl,lk_inr,Int.toNat_natCast,decide_true]
   unfold q1j q2p
   rw [hL,bnd_ok,qom,bnd_ok,qp5]
 have hF:n.2.1.length≤100→(n.2.1.any fun t=>decide ((45:Int) < (t.2.1.length:Int))||decide ((45:Int) < (t.2.2.1.length:Int))||decide ((100:Int) < (t.1.size:Int)))=false→Small n:=fun hl ha=>by
   have key:∀ t∈n.2.1,t.2.1.length≤50∧t.2.2.1.length≤50:=fun t ht=>by
     have:=List.any_eq_false.1 ha t ht
     simp only [Bool.or_eq_true,decide_eq_true_eq,not_or] at this
     omega
   exact ⟨hl,fun t ht=>(key t ht).1,fun t ht=>(key t ht).2⟩
 unfold qn3
 rw [hC,bnd_ok]
 cases ha:(n.2.1.any fun t=>decide ((45:Int) < (t.2.1.length:Int))||decide ((45:Int) < (t.2.2.1.length:Int))||decide ((100:Int) < (t.1.size:Int))) with
 | true => exact ⟨false,rfl,fun h=>by cases h⟩
 | false =>
   simp only [cond_false]
   by_cases h100:(100:Int) < (n.2.1.length:Int)
   · exact ⟨false,by simp (disch:=omega) only [ckB_ix,q7,q6,qd,ckB_mk,ckB_ne,bif_lt,q9,bif_le,qb,bif_eq,q8,bif_ne,qa,qc,q5,q4,bnd_ok,lk_inl,lk_inr,Int.toNat_natCast,decide_true],fun h=>by cases h⟩
   · have hS:=hF (by omega) ha
     by_cases hp:n.1≤12
     · by_cases ht:(n.2.1.length:Int)≤14
       · exact ⟨true,by simp (disch:=omega) only [ckB_ix,q7,q6,qd,ckB_mk,ckB_ne,bif_lt,q9,bif_le,qb,bif_eq,q8,bif_ne,qa,qc,q5,q4,bnd_ok,lk_inl,lk_inr,Int.toNat_natCast,decide_true],fun _=>⟨hS,.inl ⟨hp,by omega⟩⟩⟩
       · by_cases h20:(20:Int) < n.1
         · omega
         · refine ⟨decide ((20:Int) < (n.2.1.length:Int)),by simp (disch:=omega) only [ckB_ix,q7,q6,qd,ckB_mk,ckB_ne,bif_lt,q9,bif_le,qb,bif_eq,q8,bif_ne,qa,qc,q5,q4,bnd_ok,lk_inl,lk_inr,Int.toNat_natCast,decide_true],fun h=>⟨hS,?_⟩⟩
           have:=of_decide_eq_true h
           omega
     · by_cases h20:(20:Int) < n.1
       · exact ⟨true,by simp (disch:=omega) only [ckB_ix,q7,q6,qd,ckB_mk,ckB_ne,bif_lt,q9,bif_le,qb,bif_eq,q8,bif_ne,qa,qc,q5,q4,bnd_ok,lk_inl,lk_inr,Int.toNat_natCast,decide_true],fun _=>⟨hS,by omega⟩⟩
       · refine ⟨decide ((20:Int) < (n.2.1.length:Int)),by simp (disch:=omega) only [ckB_ix,q7,q6,qd,ckB_mk,ckB_ne,bif_lt,q9,bif_le,qb,bif_eq,q8,bif_ne,qa,qc,q5,q4,bnd_ok,lk_inl,lk_inr,Int.toNat_natCast,decide_true],fun h=>⟨hS,?_⟩⟩
         have:=of_decide_eq_true h
         omega
end Go.Proofs.Ythakmiiaejhlbaa
