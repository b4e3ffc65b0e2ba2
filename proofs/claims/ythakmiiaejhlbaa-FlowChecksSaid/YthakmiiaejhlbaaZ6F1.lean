/-
  Flow: names, lists of places, nets, incidences: the program and the reference reckon alike.
-/
import Derived.Test.YthakmiiaejhlbaaZ6Md
import Derived.Test.YthakmiiaejhlbaaZ6KE
import Derived.KernelRfl
set_option linter.all false
namespace Go.Proofs.Ythakmiiaejhlbaa
open Go.K Go.M
theorem q12o:qnc=some true:=by kernel_rfl
def eqS (a b:ByteArray):Bool:=ByteArray.toList a == ByteArray.toList b
theorem q11k (a b:ByteArray):(ByteArray.toList a == ByteArray.toList b)=eqS a b:=rfl
def letB (c:Int):Bool:=decide (65≤c)&&decide (c≤90)||decide (97≤c)&&decide (c≤122)
def partB (c:Int):Bool:=letB c||decide (48≤c)&&decide (c≤57)||decide (c=95)||decide (c=45)||decide (c=46)
abbrev byt (s:ByteArray) (i:Nat):Int:=((ByteArray.data s).getD i 0).toNat
theorem qxr (c:Int):qcn c=some (letB c):=by
 unfold qcn letB
 cases decide ((65:Int)≤c)<;>cases decide (c≤(90:Int))<;>cases decide ((97:Int)≤c)<;>cases decide (c≤(122:Int))<;>rfl
theorem qk3 (c:Int):qb5 c=some (letB c):=by
 unfold qb5 letB
 cases decide ((65:Int)≤c)<;>cases decide (c≤(90:Int))<;>cases decide ((97:Int)≤c)<;>cases decide (c≤(122:Int))<;>rfl
theorem q11l (c:Int):qn1 c=some (partB c):=by
 unfold qn1 partB
 rw [qxr,bnd_ok]
 cases letB c<;>cases decide ((48:Int)≤c)<;>cases decide (c≤(57:Int))<;>cases decide (c=(95:Int))<;>cases decide (c=(45:Int))<;>cases decide (c=(46:Int))<;>rfl
def nameB (s:ByteArray):Bool:=decide (1≤s.size)&&decide (s.size≤40)&&letB (byt s 0)&&(List.range s.size).all fun i=>partB (byt s i)
theorem q145 (s:ByteArray):qhe s=some (nameB s):=by
 unfold qhe nameB
 by_cases h1:(s.size:Int) < 1
 · have:¬ 1≤s.size:=by omega
   simp (disch:=omega) only [ckB_ix,qc,q7,qb,ckB_mk,ckB_ne,bif_lt,qe,bif_le,qa,bif_eq,qf,bif_ne,q9,qd,q5,q0,bnd_ok,lk_inl,lk_inr,Int.toNat_natCast,decide_true]
   rw [decide_eq_false this]; rfl
 · have h1':1≤s.size:=by omega
   rw [decide_eq_true h1']
   by_cases h2:40 < (s.size:Int)
   · have:¬ s.size≤40:=by omega
     simp (disch:=omega) only [ckB_ix,qc,q7,qb,ckB_mk,ckB_ne,bif_lt,qe,bif_le,qa,bif_eq,qf,bif_ne,q9,qd,q5,q0,bnd_ok,lk_inl,lk_inr,Int.toNat_natCast,decide_true]
     rw [decide_eq_false this]; rfl
   · have h2':s.size≤40:=by omega
     rw [decide_eq_true h2']
     have hL:qqs s (s.size:Int) 0=some (bif (List.range s.size).all (fun i=>partB (byt s i)) then .inl () else .inr false):=by
       refine qdi (fun i:Nat=>(i:Int)) s.size (q2i (by omega)) _ () false ?_ ?_ ?_
       · intro i hi hp
         simp (disch:=omega) only [q94,q11l,hp,Bool.not_true,ckB_ix,qc,q7,qb,ckB_mk,ckB_ne,bif_lt,qe,bif_le,qa,bif_eq,qf,bif_ne,q9,qd,q5,q0,bnd_ok,lk_inl,lk_inr,Int.toNat_natCast,decide_true]
         rw [qn]
       · intro i hi hp
         simp (disch:=omega) only [q94,q11l,hp,Bool.not_false,ckB_ix,qc,q7,qb,ckB_mk,ckB_ne,bif_lt,qe,bif_le,qa,bif_eq,qf,bif_ne,q9,qd,q5,q0,bnd_ok,lk_inl,lk_inr,Int.toNat_natCast,decide_true]
       · simp (disch:=omega) only [q94,ckB_ix,qc,q7,qb,ckB_mk,ckB_ne,bif_lt,qe,bif_le,qa,bif_eq,qf,bif_ne,q9,qd,q5,q0,bnd_ok,lk_inl,lk_inr,Int.toNat_natCast,decide_true]
     simp (disch:=omega) only [qxr,hL,ckB_ix,qc,q7,qb,ckB_mk,ckB_ne,bif_lt,qe,bif_le,qa,bif_eq,qf,bif_ne,q9,qd,q5,q0,bnd_ok,lk_inl,lk_inr,Int.toNat_natCast,decide_true]
     cases letB (byt s 0) with
     | false => rfl
     | true => cases (List.range s.size).all (fun i=>partB (byt s i))<;>rfl
theorem qwm (n:Nat) (p:Nat→Bool):(List.range (n+1)).all p=(p 0&&(List.range n).all fun i=>p (i+1)):=by
 rw [List.range_succ_eq_map,List.all_cons,List.all_map]
 rfl
theorem q103 (s:ByteArray):qfj s=some (nameB s):=by
 unfold qfj nameB
 by_cases h1:(s.size:Int) < 1
 · have:¬ 1≤s.size:=by omega
   simp (disch:=omega) only [ckB_ix,qc,q7,qb,ckB_mk,ckB_ne,bif_lt,qe,bif_le,qa,bif_eq,qf,bif_ne,q9,qd,q5,q0,bnd_ok,lk_inl,lk_inr,Int.toNat_natCast,decide_true]
   rw [decide_eq_false this]; rfl
 · have h1':1≤s.size:=by omega
   rw [decide_eq_true h1']
   by_cases h2:40 < (s.size:Int)
   · have:¬ s.size≤40:=by omega
     simp (disch:=omega) only [ckB_ix,qc,q7,qb,ckB_mk,ckB_ne,bif_lt,qe,bif_le,qa,bif_eq,qf,bif_ne,q9,qd,q5,q0,bnd_ok,lk_inl,lk_inr,Int.toNat_natCast,decide_true]
     rw [decide_eq_false this]; rfl
   · have h2':s.size≤40:=by omega
     rw [decide_eq_true h2']
     have hL:qp2 s 1=some (bif (List.range (s.size - 1)).all (fun i=>partB (byt s (i+1))) then .inl () else .inr false):=by
       refine qdi (fun i:Nat=>((i+1:Nat):Int)) (s.size - 1) (q2i (by omega)) _ () false ?_ ?_ ?_
       · intro i hi hp
         unfold partB at hp
         simp (disch:=omega) only [q81,qk3,ckB_ix,qc,q7,qb,ckB_mk,ckB_ne,bif_lt,qe,bif_le,qa,bif_eq,qf,bif_ne,q9,qd,q5,q0,bnd_ok,lk_inl,lk_inr,Int.toNat_natCast,decide_true]
         rw [qn]
         revert hp
         cases letB (byt s (i+1))<;>cases decide ((48:Int)≤byt s (i+1))<;>cases decide (byt s (i+1)≤(57:Int))<;>cases decide (byt s (i+1)=(95:Int))<;>cases decide (byt s (i+1)=(45:Int))<;>cases decide (byt s (i+1)=(46:Int))<;>intro hp<;>first | rfl | cases hp
       · intro i hi hp
         unfold partB at hp
         simp (disch:=omega) only [q81,qk3,ckB_ix,qc,q7,qb,ckB_mk,ckB_ne,bif_lt,qe,bif_le,qa,bif_eq,qf,bif_ne,q9,qd,q5,q0,bnd_ok,lk_inl,lk_inr,Int.toNat_natCast,decide_true]
         revert hp
         cases letB (byt s (i+1))<;>cases decide ((48:Int)≤byt s (i+1))<;>cases decide (byt s (i+1)≤(57:Int))<;>cases decide (byt s (i+1)=(95:Int))<;>cases decide (byt s (i+1)=(45:Int))<;>cases decide (byt s (i+1)=(46:Int))<;>intro hp<;>first | rfl | cases hp
       · have e:s.size - 1+1=s.size:=by omega
         rw [e]
         simp (disch:=omega) only [q81,ckB_ix,qc,q7,qb,ckB_mk,ckB_ne,bif_lt,qe,bif_le,qa,bif_eq,qf,bif_ne,q9,qd,q5,q0,bnd_ok,lk_inl,lk_inr,Int.toNat_natCast,decide_true]
     simp (disch:=omega) only [qk3,hL,ckB_ix,qc,q7,qb,ckB_mk,ckB_ne,bif_lt,qe,bif_le,qa,bif_eq,qf,bif_ne,q9,qd,q5,q0,bnd_ok,lk_inl,lk_inr,Int.toNat_natCast,decide_true]
     have e:s.size=s.size - 1+1:=by omega
     have e2:(List.range s.size).all (fun i=>partB (byt s i))=(partB (byt s 0)&&(List.range (s.size - 1)).all fun i=>partB (byt s (i+1))):=by
       conv=>lhs; rw [e]
       exact qwm _ _
     rw [e2]
     have e3:letB (byt s 0)=true→partB (byt s 0)=true:=fun h=>by unfold partB; rw [h]; rfl
     cases h:letB (byt s 0) with
     | false => rfl
     | true =>
       rw [e3 h]
       cases (List.range (s.size - 1)).all (fun i=>partB (byt s (i+1)))<;>rfl
def memB (l:List Int) (x:Int):Bool:=l.any fun y=>decide (x=y)
theorem qtp (l:List Int) (h:l.length≤1000000) (x:Int):q2a l x=some (memB l x):=by
 have hL:qcj l x (l.length:Int) 0=some (fOut (fun i=>(i:Int)) (fidx (fun y=>decide (x=y)) l)):=by
   refine qe6 l 0 (fun y=>decide (x=y)) (fun i=>(i:Int)) (by omega) (fun i hi=>?_) ?_
   · simp (disch:=omega) only [q4h,ckB_ix,qc,q7,qb,ckB_mk,ckB_ne,bif_lt,qe,bif_le,qa,bif_eq,qf,bif_ne,q9,qd,q5,q0,bnd_ok,lk_inl,lk_inr,Int.toNat_natCast,decide_true]
     rw [qn]
     cases decide (x=l.getD i 0)<;>rfl
   · simp (disch:=omega) only [q4h,ckB_ix,qc,q7,qb,ckB_mk,ckB_ne,bif_lt,qe,bif_le,qa,bif_eq,qf,bif_ne,q9,qd,q5,q0,bnd_ok,lk_inl,lk_inr,Int.toNat_natCast,decide_true]
 unfold q2a q9w
 rw [hL,bnd_ok,qjw,bnd_ok,qjr]
 rfl
theorem Has_eq (l:List Int) (h:l.length≤1000000) (x:Int):qhu l x=some (memB l x):=by
 have hL:qt4 l x 0=some (bif l.any (fun y=>decide (y=x)) then .inr true else .inl ()):=by
   refine qbh l 0 (fun y=>decide (y=x)) true (by omega) (fun i hi=>?_) ?_
   · simp (disch:=omega) only [qfn,ckB_ix,qc,q7,qb,ckB_mk,ckB_ne,bif_lt,qe,bif_le,qa,bif_eq,qf,bif_ne,q9,qd,q5,q0,bnd_ok,lk_inl,lk_inr,Int.toNat_natCast,decide_true]
     rw [qn]
     cases decide (l.getD i 0=x)<;>rfl
   · simp (disch:=omega) only [qfn,ckB_ix,qc,q7,qb,ckB_mk,ckB_ne,bif_lt,qe,bif_le,qa,bif_eq,qf,bif_ne,q9,qd,q5,q0,bnd_ok,lk_inl,lk_inr,Int.toNat_natCast,decide_true]
 unfold qhu memB
 have e:(l.any fun y=>decide (x=y))=l.any fun y=>decide (y=x):=q12x fun y _=>decide_eq_decide.2 ⟨Eq.symm,Eq.symm⟩
 rw [hL,bnd_ok,e]
 cases l.any (fun y=>decide (y=x))<;>rfl
def badQ (N:Int) (l:List Int) (i:Nat):Bool:=decide (l.getD i 0 < 0)||decide (N≤l.getD i 0)||decide (0 < i)&&decide (l.getD i 0≤l.getD (i - 1) 0)
def setB (N:Int) (l:List Int):Bool:=(List.range l.length).all fun i=>!badQ N l i
theorem qss (N:Int) (ts:List Trans) (a b:Int) (l:List Int) (h:l.length≤1000000):qp5 l l (l.length:Int) N ts a b 0=some (bif (List.range l.length).all (fun i=>!badQ N l i) then .inl () else .inr false):=by
 have hst:∀ i:Nat,i < l.length→q5o l l (l.length:Int) N ts a b (R:=LR Int Unit Bool) (i:Int) (fun a'=>some (.next a')) (fun e=>some (.done e)) (fun r=>some (.ret r))=some (bif badQ N l i then .ret false else .next ((i+1:Nat):Int)):=fun i hi=>by
   unfold badQ
   by_cases h0:0 < i
   · have e:(i:Int) - 1=((i - 1:Nat):Int):=by omega
     have h0':(0:Int) < (i:Int):=by omega
     rw [decide_eq_true h0]
     simp (disch:=omega) only [q5o,e,ckB_ix,qc,q7,qb,ckB_mk,ckB_ne,bif_lt,qe,bif_le,qa,bif_eq,qf,bif_ne,q9,qd,q5,q0,bnd_ok,lk_inl,lk_inr,Int.toNat_natCast,decide_true]
     rw [qn]
     cases decide (l.getD i 0 < 0)<;>cases decide (N≤l.getD i 0)<;>cases decide (l.getD i 0≤l.getD (i - 1) 0)<;>rfl
   · have h0':¬ (0:Int) < (i:Int):=by omega
     rw [decide_eq_false h0]
     simp (disch:=omega) only [q5o,ckB_ix,qc,q7,qb,ckB_mk,ckB_ne,bif_lt,qe,bif_le,qa,bif_eq,qf,bif_ne,q9,qd,q5,q0,bnd_ok,lk_inl,lk_inr,Int.toNat_natCast,decide_true]
     rw [qn]
     cases decide (l.getD i 0 < 0)<;>cases decide (N≤l.getD i 0)<;>rfl
 refine qdi (fun i:Nat=>(i:Int)) l.length (q2i (by omega)) _ () false (fun i hi hp=>?_) (fun i hi hp=>?_) ?_
 · have hb:badQ N l i=false:=by simpa using hp
   exact (hst i hi).trans (by rw [hb]; rfl)
 · have hb:badQ N l i=true:=by simpa using hp
   exact (hst i hi).trans (by rw [hb]; rfl)
 · simp (disch:=omega) only [q5o,ckB_ix,qc,q7,qb,ckB_mk,ckB_ne,bif_lt,qe,bif_le,qa,bif_eq,qf,bif_ne,q9,qd,q5,q0,bnd_ok,lk_inl,lk_inr,Int.toNat_natCast,decide_true]
theorem qsr (N:Int) (ts:List Trans) (a b:Int) (l:List Int) (h:l.length≤1000000):qp0 N l 0=some (bif (List.range l.length).all (fun i=>!badQ N l i) then .inl () else .inr false):=by
 have hst:∀ i:Nat,i < l.length→q5n N l (R:=LR Int Unit Bool) (i:Int) (fun a'=>some (.next a')) (fun e=>some (.done e)) (fun r=>some (.ret r))=some (bif badQ N l i then .ret false else .next ((i+1:Nat):Int)):=fun i hi=>by
   unfold badQ
   by_cases h0:0 < i
   · have e:(i:Int) - 1=((i - 1:Nat):Int):=by omega
     have h0':(0:Int) < (i:Int):=by omega
     rw [decide_eq_true h0]
     simp (disch:=omega) only [q5n,e,ckB_ix,qc,q7,qb,ckB_mk,ckB_ne,bif_lt,qe,bif_le,qa,bif_eq,qf,bif_ne,q9,qd,q5,q0,bnd_ok,lk_inl,lk_inr,Int.toNat_natCast,decide_true]
     rw [qn]
     cases decide (l.getD i 0 < 0)<;>cases decide (N≤l.getD i 0)<;>cases decide (l.getD i 0≤l.getD (i - 1) 0)<;>rfl
   · have h0':¬ (0:Int) < (i:Int):=by omega
     rw [decide_eq_false h0]
     simp (disch:=omega) only [q5n,ckB_ix,qc,q7,qb,ckB_mk,ckB_ne,bif_lt,qe,bif_le,qa,bif_eq,qf,bif_ne,q9,qd,q5,q0,bnd_ok,lk_inl,lk_inr,Int.toNat_natCast,decide_true]
     rw [qn]
     cases decide (l.getD i 0 < 0)<;>cases decide (N≤l.getD i 0)<;>rfl
 refine qdi (fun i:Nat=>(i:Int)) l.length (q2i (by omega)) _ () false (fun i hi hp=>?_) (fun i hi hp=>?_) ?_
 · have hb:badQ N l i=false:=by simpa using hp
   exact (hst i hi).trans (by rw [hb]; rfl)
 · have hb:badQ N l i=true:=by simpa using hp
   exact (hst i hi).trans (by rw [hb]; rfl)
 · simp (disch:=omega) only [q5n,ckB_ix,qc,q7,qb,ckB_mk,ckB_ne,bif_lt,qe,bif_le,qa,bif_eq,qf,bif_ne,q9,qd,q5,q0,bnd_ok,lk_inl,lk_inr,Int.toNat_natCast,decide_true]
theorem bif_id {b:Bool}:(lk (bif b then (.inl ():Unit⊕Bool) else .inr false) (fun _=>some true) fun r=>some r)=some b:=by cases b<;>rfl
theorem qad (n:Net) (l:List Int) (h:l.length≤1000000):q40 n l=some (setB n.1 l):=by
 unfold q40 setB
 rw [qss n.1 n.2.1 n.2.2.1 n.2.2.2.1 l h,bnd_ok,bif_id]
theorem qmd (N:Int) (l:List Int) (h:l.length≤1000000):q6u N l=some (setB N l):=by
 unfold q6u setB
 rw [qsr N [] 0 0 l h,bnd_ok,bif_id]
structure Small (n:Net):Prop where
 trans:n.2.1.length≤100
 ins:∀ t∈n.2.1,t.2.1.length≤50
 outs:∀ t∈n.2.1,t.2.2.1.length≤50
def badT (N:Int) (t:Trans):Bool:=!eqS t.1 ⟨#[]⟩&&!nameB t.1||!setB N t.2.1||!setB N t.2.2.1
def validN (n:Net):Bool:=decide (1≤n.1)&&decide (n.1≤40)&&decide (n.2.1.length≤60)&&!n.2.1.any (badT n.1)&&(decide (0≤n.2.2.1)&&decide (n.2.2.1 < n.1))&&(decide (0≤n.2.2.2.1)&&decide (n.2.2.2.1 < n.1))
theorem q106 (N x:Int):setB N [x]=(decide (0≤x)&&decide (x < N)):=by
 unfold setB badQ
 rw [Bool.eq_iff_iff]
 simp
theorem qui {n:Net} (h:Small n):q5c n=some (validN n):=by
 have hL:qqm n.2.1 (n.2.1.length:Int) n.1 n.2.1 n.2.2.1 n.2.2.2.1 0=some (bif n.2.1.any (badT n.1) then .inr false else .inl ()):=by
   have hl:=h.trans
   refine qbh n.2.1 Trans.z (badT n.1) false (by omega) (fun i hi=>?_) ?_
   · have h1:=h.ins _ (q10 Trans.z hi)
     have h2:=h.outs _ (q10 Trans.z hi)
     unfold badT
     simp (disch:=omega) only [q11k,qbj,q145,ckB_ix,qc,q7,qb,ckB_mk,ckB_ne,bif_lt,qe,bif_le,qa,bif_eq,qf,bif_ne,q9,qd,q5,q0,bnd_ok,lk_inl,lk_inr,Int.toNat_natCast,decide_true]
     rw [qad _ _ (by omega),qad _ _ (by omega),qn]
     simp only [bnd_ok]
     cases eqS (n.2.1.getD i Trans.z).1 ⟨#[]⟩<;>cases nameB (n.2.1.getD i Trans.z).1<;>cases setB n.1 (n.2.1.getD i Trans.z).2.1<;>cases setB n.1 (n.2.1.getD i Trans.z).2.2.1<;>rfl
   · simp (disch:=omega) only [qbj,ckB_ix,qc,q7,qb,ckB_mk,ckB_ne,bif_lt,qe,bif_le,qa,bif_eq,qf,bif_ne,q9,qd,q5,q0,bnd_ok,lk_inl,lk_inr,Int.toNat_natCast,decide_true]
 unfold q5c validN
 rw [hL,qad _ _ (by simp),qad _ _ (by simp),q106,q106]
 have e1:decide (1≤n.1)=!decide (n.1 < 1):=by rw [Bool.eq_iff_iff]; simp
 have e2:decide (n.1≤40)=!decide (40 < n.1):=by rw [Bool.eq_iff_iff]; simp
 have e3:decide (n.2.1.length≤60)=!decide ((60:Int) < (n.2.1.length:Int)):=by rw [Bool.eq_iff_iff]; simp; omega
 rw [e1,e2,e3]
 cases decide (n.1 < 1)<;>cases decide (40 < n.1)<;>cases decide ((60:Int) < (n.2.1.length:Int))<;>cases n.2.1.any (badT n.1)<;>cases (decide (0≤n.2.2.1)&&decide (n.2.2.1 < n.1))<;>cases (decide (0≤n.2.2.2.1)&&decide (n.2.2.2.1 < n.1))<;>rfl
theorem qhg {n:Net} (h:Small n):q8d n=some (validN n):=by
 have hL:qqk n.1 n.2.1 n.2.2.1 n.2.2.2.1 0=some (bif n.2.1.any (badT n.1) then .inr false else .inl ()):=by
   have hl:=h.trans
   refine qbh n.2.1 Trans.z (badT n.1) false (by omega) (fun i hi=>?_) ?_
   · have h1:=h.ins _ (q10 Trans.z hi)
     have h2:=h.outs _ (q10 Trans.z hi)
     unfold badT
     simp (disch:=omega) only [q11k,qbx,q103,ckB_ix,qc,q7,qb,ckB_mk,ckB_ne,bif_lt,qe,bif_le,qa,bif_eq,qf,bif_ne,q9,qd,q5,q0,bnd_ok,lk_inl,lk_inr,Int.toNat_natCast,decide_true]
     rw [qmd _ _ (by omega),qmd _ _ (by omega),qn]
     simp only [bnd_ok]
     cases eqS (n.2.1.getD i Trans.z).1 ⟨#[]⟩<;>cases nameB (n.2.1.getD i Trans.z).1<;>cases setB n.1 (n.2.1.getD i Trans.z).2.1<;>cases setB n.1 (n.2.1.getD i Trans.z).2.2.1<;>rfl
   · simp (disch:=omega) only [qbx,ckB_ix,qc,q7,qb,ckB_mk,ckB_ne,bif_lt,qe,bif_le,qa,bif_eq,qf,bif_ne,q9,qd,q5,q0,bnd_ok,lk_inl,lk_inr,Int.toNat_natCast,decide_true]
 unfold q8d validN
 rw [hL]
 have e1:decide (1≤n.1)=!decide (n.1 < 1):=by rw [Bool.eq_iff_iff]; simp
 have e2:decide (n.1≤40)=!decide (40 < n.1):=by rw [Bool.eq_iff_iff]; simp
 have e3:decide (n.2.1.length≤60)=!decide ((60:Int) < (n.2.1.length:Int)):=by rw [Bool.eq_iff_iff]; simp; omega
 have e4:∀ x:Int,decide (0≤x)=!decide (x < 0):=fun x=>by rw [Bool.eq_iff_iff]; simp
 have e5:∀ x:Int,decide (x < n.1)=!decide (n.1≤x):=fun x=>by rw [Bool.eq_iff_iff]; simp
 rw [e1,e2,e3,e4 n.2.2.1,e4 n.2.2.2.1,e5 n.2.2.1,e5 n.2.2.2.1]
 cases decide (n.1 < 1)<;>cases decide (40 < n.1)<;>cases decide ((60:Int) < (n.2.1.length:Int))<;>cases n.2.1.any (badT n.1)<;>cases decide (n.2.2.1 < 0)<;>cases decide (n.1≤n.2.2.1)<;>cases decide (n.2.2.2.1 < 0)<;>cases decide (n.1≤n.2.2.2.1)<;>rfl
theorem q14y {N:Int} {l:List Int}:setB N l=true↔(∀ x∈l,0≤x∧x < N)∧l.Pairwise (· < ·):=by
 unfold setB
 rw [List.all_eq_true]
 constructor
 · intro h
   have hq:∀ i,i < l.length→(0≤l.getD i 0∧l.getD i 0 < N)∧(0 < i→l.getD (i - 1) 0 < l.getD i 0):=fun i hi=>by
     have:=h i (List.mem_range.2 hi)
     unfold badQ at this
     simp only [Bool.not_eq_true',Bool.or_eq_false_iff,Bool.and_eq_false_iff,decide_eq_false_iff_not] at this
     refine ⟨by omega,fun h0=>?_⟩
     rcases this.2 with h1 | h1
     · exact absurd h0 h1
     · omega
   refine ⟨fun x hx=>?_,List.pairwise_iff_getElem.2 fun i j hi hj hij=>?_⟩
   · obtain ⟨i,hi,rfl⟩:=q10h 0 hx
     exact (hq i hi).1
   · have key:∀ d,∀ j,j=i+1+d→j < l.length→l.getD i 0 < l.getD j 0:=by
       intro d
       induction d with
       | zero => intro j hj hl; subst hj; exact (hq (i+1) hl).2 (by omega)
       | succ d ih =>
         intro j hj hl
         have h1:=ih (i+1+d) rfl (by omega)
         have h2:=(hq j hl).2 (by omega)
         rw [show j - 1=i+1+d by omega] at h2
         omega
     have:=key (j - i - 1) j (by omega) hj
     rwa [qjq l i 0 hi,qjq l j 0 hj] at this
 · rintro ⟨h1,h2⟩ i hi
   have hi:=List.mem_range.1 hi
   have hb:=h1 _ (q10 0 hi)
   unfold badQ
   simp only [Bool.not_eq_true',Bool.or_eq_false_iff,Bool.and_eq_false_iff,decide_eq_false_iff_not]
   refine ⟨by omega,?_⟩
   by_cases h0:0 < i
   · right
     have:=List.pairwise_iff_getElem.1 h2 (i - 1) i (by omega) hi (by omega)
     rw [qjq l i 0 hi,qjq l (i - 1) 0 (by omega)]
     omega
   · exact .inl h0
theorem q12m {α Rr:Type} {step:Int→Option (LR Int Unit Rr)} (l:List α) (d:α) (q:α→Bool) (g:Nat→Rr) (hl:l.length≤9223372036854775807)
   (h:∀ i:Nat,i < l.length→step (i:Int)=some (bif q (l.getD i d) then .ret (g i) else .next ((i+1:Nat):Int))) (hd:step (l.length:Int)=some (.done ())) :
   loopM step 0=some (fOut g (fidx q l)):=by
 cases hf:fidx q l with
 | none =>
   refine qff (fun i:Nat=>(i:Int)) l.length (by unfold many; omega) (.inl ()) (fun i hi=>?_) hd
   rw [h i hi,qr6 hf _ (q10 d hi)]; rfl
 | some k =>
   obtain ⟨h1,h2,h3⟩:=qs5 d hf
   refine qpb (fun i:Nat=>(i:Int)) k (by unfold many; omega) (.ret (g k)) (.inr (g k)) rfl (fun i hi=>?_) ?_
   · rw [h i (by omega),h3 i hi]; rfl
   · rw [h k h1,h2]; rfl
def incB (t:Trans) (p:Int):Int:=(if memB t.2.2.1 p then 1 else 0) - (if memB t.2.1 p then 1 else 0)
theorem q15n (t:Trans) (p:Int) : -1≤incB t p∧incB t p≤1:=by unfold incB; repeat' split<;>omega
theorem qy9 (t:Trans) (p:Int) (h1:t.2.1.length≤1000000) (h2:t.2.2.1.length≤1000000):q3p t p=some (incB t p):=by
 unfold q3p incB
 rw [qtp _ h1,qtp _ h2]
 cases memB t.2.1 p<;>cases memB t.2.2.1 p<;>rfl
theorem At_eq (t:Trans) (p:Int) (h1:t.2.1.length≤1000000) (h2:t.2.2.1.length≤1000000):qkp t p=some (incB t p):=by
 unfold qkp incB
 rw [Has_eq _ h1,Has_eq _ h2]
 cases memB t.2.1 p<;>cases memB t.2.2.1 p<;>rfl
theorem few_eq (n:Net) (hl:n.2.1.length≤9223372036854775807):∃ b,qml n=some b∧(b=true→Small n∧((n.1≤12∧n.2.1.length≤14)∨20 < n.1∨20 < n.2.1.length)):=by
 have h1:∀ t:Trans,qhi t=some (decide ((45:Int) < (t.2.1.length:Int))||decide ((45:Int) < (t.2.2.1.length:Int))||decide ((100:Int) < (t.1.size:Int))):=fun t=>by
   unfold qhi
   cases decide ((45:Int) < (t.2.1.length:Int))<;>cases decide ((45:Int) < (t.2.2.1.length:Int))<;>rfl
 have hC:qx n.2.1=some (n.2.1.any fun t=>decide ((45:Int) < (t.2.1.length:Int))||decide ((45:Int) < (t.2.2.1.length:Int))||decide ((100:Int) < (t.1.size:Int))):=by
   have hL:q3o n.2.1 (n.2.1.length:Int) 0=some (fOut (fun i=>(i:Int)) (fidx (fun t:Trans=>decide ((45:Int) < (t.2.1.length:Int))||decide ((45:Int) < (t.2.2.1.length:Int))||decide ((100:Int) < (t.1.size:Int))) n.2.1)):=by
     refine q12m n.2.1 Trans.z (fun t:Trans=>decide ((45:Int) < (t.2.1.length:Int))||decide ((45:Int) < (t.2.2.1.length:Int))||decide ((100:Int) < (t.1.size:Int))) (fun i=>(i:Int)) hl (fun i hi=>?_) ?_
     · simp (disch:=omega) only [qy,h1,ckB_ix,qc,q7,qb,ckB_mk,ckB_ne,bif_lt,qe,bif_le,qa,bif_eq,qf,bif_ne,q9,qd,q5,q0,bnd_ok,lk_inl,lk_inr,Int.toNat_natCast,decide_true]
       rw [qn]
       exact q14g
     · simp (disch:=omega) only [qy,ckB_ix,qc,q7,qb,ckB_mk,ckB_ne,bif_lt,qe,bif_le,qa,bif_eq,qf,bif_ne,q9,qd,q5,q0,bnd_ok,lk_inl,lk_inr,Int.toNat_natCast,decide_true]
   unfold qx q1j
   rw [hL,bnd_ok,qjw,bnd_ok,qjr]
 have hF:n.2.1.length≤100→(n.2.1.any fun t=>decide ((45:Int) < (t.2.1.length:Int))||decide ((45:Int) < (t.2.2.1.length:Int))||decide ((100:Int) < (t.1.size:Int)))=false→Small n:=fun hl ha=>by
   have key:∀ t∈n.2.1,t.2.1.length≤50∧t.2.2.1.length≤50:=fun t ht=>by
     have:=List.any_eq_false.1 ha t ht
     simp only [Bool.or_eq_true,decide_eq_true_eq,not_or] at this
     omega
   exact ⟨hl,fun t ht=>(key t ht).1,fun t ht=>(key t ht).2⟩
 unfold qml
 rw [hC,bnd_ok]
 cases ha:(n.2.1.any fun t=>decide ((45:Int) < (t.2.1.length:Int))||decide ((45:Int) < (t.2.2.1.length:Int))||decide ((100:Int) < (t.1.size:Int))) with
 | true => exact ⟨false,rfl,fun h=>by cases h⟩
 | false =>
   simp only [cond_false]
   by_cases h100:(100:Int) < (n.2.1.length:Int)
   · exact ⟨false,by simp (disch:=omega) only [ckB_ix,qc,q7,qb,ckB_mk,ckB_ne,bif_lt,qe,bif_le,qa,bif_eq,qf,bif_ne,q9,qd,q5,q0,bnd_ok,lk_inl,lk_inr,Int.toNat_natCast,decide_true],fun h=>by cases h⟩
   · have hS:=hF (by omega) ha
     by_cases hp:n.1≤12
     · by_cases ht:(n.2.1.length:Int)≤14
       · exact ⟨true,by simp (disch:=omega) only [ckB_ix,qc,q7,qb,ckB_mk,ckB_ne,bif_lt,qe,bif_le,qa,bif_eq,qf,bif_ne,q9,qd,q5,q0,bnd_ok,lk_inl,lk_inr,Int.toNat_natCast,decide_true],fun _=>⟨hS,.inl ⟨hp,by omega⟩⟩⟩
       · by_cases h20:(20:Int) < n.1
         · omega
         · refine ⟨decide ((20:Int) < (n.2.1.length:Int)),by simp (disch:=omega) only [ckB_ix,qc,q7,qb,ckB_mk,ckB_ne,bif_lt,qe,bif_le,qa,bif_eq,qf,bif_ne,q9,qd,q5,q0,bnd_ok,lk_inl,lk_inr,Int.toNat_natCast,decide_true],fun h=>⟨hS,?_⟩⟩
           have:=of_decide_eq_true h
           omega
     · by_cases h20:(20:Int) < n.1
       · exact ⟨true,by simp (disch:=omega) only [ckB_ix,qc,q7,qb,ckB_mk,ckB_ne,bif_lt,qe,bif_le,qa,bif_eq,qf,bif_ne,q9,qd,q5,q0,bnd_ok,lk_inl,lk_inr,Int.toNat_natCast,decide_true],fun _=>⟨hS,by omega⟩⟩
       · refine ⟨decide ((20:Int) < (n.2.1.length:Int)),by simp (disch:=omega) only [ckB_ix,qc,q7,qb,ckB_mk,ckB_ne,bif_lt,qe,bif_le,qa,bif_eq,qf,bif_ne,q9,qd,q5,q0,bnd_ok,lk_inl,lk_inr,Int.toNat_natCast,decide_true],fun h=>⟨hS,?_⟩⟩
         have:=of_decide_eq_true h
         omega
end Go.Proofs.Ythakmiiaejhlbaa
