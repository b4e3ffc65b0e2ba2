/-
  Siphon: names, lists of places, nets: the program and the reference reckon alike.
-/
import Derived.Test.YtjhojmninmipcaaZ4Md
import Derived.Test.YtjhojmninmipcaaZ4KE
import Derived.KernelRfl
set_option linter.all false
namespace Go.Proofs.Ytjhojmninmipcaa
open Go.K Go.M
theorem qz5:qlh=some true:=by kernel_rfl
def eqS (a b:ByteArray):Bool:=ByteArray.toList a == ByteArray.toList b
theorem qxy (a b:ByteArray):(ByteArray.toList a == ByteArray.toList b)=eqS a b:=rfl
def letB (c:Int):Bool:=decide (65≤c)&&decide (c≤90)||decide (97≤c)&&decide (c≤122)
def partB (c:Int):Bool:=letB c||decide (48≤c)&&decide (c≤57)||decide (c=95)||decide (c=45)||decide (c=46)
abbrev byt (s:ByteArray) (i:Nat):Int:=((ByteArray.data s).getD i 0).toNat
theorem qv2 (c:Int):qce c=some (letB c):=by
 unfold qce letB
 cases decide ((65:Int)≤c)<;>cases decide (c≤(90:Int))<;>cases decide ((97:Int)≤c)<;>cases decide (c≤(122:Int))<;>rfl
theorem qjw (c:Int):qb4 c=some (letB c):=by
 unfold qb4 letB
 cases decide ((65:Int)≤c)<;>cases decide (c≤(90:Int))<;>cases decide ((97:Int)≤c)<;>cases decide (c≤(122:Int))<;>rfl
theorem qy3 (c:Int):ql9 c=some (partB c):=by
 unfold ql9 partB
 rw [qv2,bnd_ok]
 cases letB c<;>cases decide ((48:Int)≤c)<;>cases decide (c≤(57:Int))<;>cases decide (c=(95:Int))<;>cases decide (c=(45:Int))<;>cases decide (c=(46:Int))<;>rfl
def nameB (s:ByteArray):Bool:=decide (1≤s.size)&&decide (s.size≤40)&&letB (byt s 0)&&(List.range s.size).all fun i=>partB (byt s i)
theorem q10i (s:ByteArray):qgs s=some (nameB s):=by
 unfold qgs nameB
 by_cases h1:(s.size:Int) < 1
 · have:¬ 1≤s.size:=by omega
   simp (disch:=omega) only [ckB_ix,qa,q6,qb,ckB_mk,ckB_ne,bif_lt,qf,bif_le,qc,bif_eq,qe,bif_ne,q9,qd,q4,q0,bnd_ok,lk_inl,lk_inr,Int.toNat_natCast,decide_true]
   rw [decide_eq_false this]; rfl
 · have h1':1≤s.size:=by omega
   rw [decide_eq_true h1']
   by_cases h2:40 < (s.size:Int)
   · have:¬ s.size≤40:=by omega
     simp (disch:=omega) only [ckB_ix,qa,q6,qb,ckB_mk,ckB_ne,bif_lt,qf,bif_le,qc,bif_eq,qe,bif_ne,q9,qd,q4,q0,bnd_ok,lk_inl,lk_inr,Int.toNat_natCast,decide_true]
     rw [decide_eq_false this]; rfl
   · have h2':s.size≤40:=by omega
     rw [decide_eq_true h2']
     have hL:qog s (s.size:Int) 0=some (bif (List.range s.size).all (fun i=>partB (byt s i)) then .inl () else .inr false):=by
       refine qdh (fun i:Nat=>(i:Int)) s.size (q5u (by omega)) _ () false ?_ ?_ ?_
       · intro i hi hp
         simp (disch:=omega) only [q98,qy3,hp,Bool.not_true,ckB_ix,qa,q6,qb,ckB_mk,ckB_ne,bif_lt,qf,bif_le,qc,bif_eq,qe,bif_ne,q9,qd,q4,q0,bnd_ok,lk_inl,lk_inr,Int.toNat_natCast,decide_true]
         rw [qm]
       · intro i hi hp
         simp (disch:=omega) only [q98,qy3,hp,Bool.not_false,ckB_ix,qa,q6,qb,ckB_mk,ckB_ne,bif_lt,qf,bif_le,qc,bif_eq,qe,bif_ne,q9,qd,q4,q0,bnd_ok,lk_inl,lk_inr,Int.toNat_natCast,decide_true]
       · simp (disch:=omega) only [q98,ckB_ix,qa,q6,qb,ckB_mk,ckB_ne,bif_lt,qf,bif_le,qc,bif_eq,qe,bif_ne,q9,qd,q4,q0,bnd_ok,lk_inl,lk_inr,Int.toNat_natCast,decide_true]
     simp (disch:=omega) only [qv2,hL,ckB_ix,qa,q6,qb,ckB_mk,ckB_ne,bif_lt,qf,bif_le,qc,bif_eq,qe,bif_ne,q9,qd,q4,q0,bnd_ok,lk_inl,lk_inr,Int.toNat_natCast,decide_true]
     cases letB (byt s 0) with
     | false => rfl
     | true => cases (List.range s.size).all (fun i=>partB (byt s i))<;>rfl
theorem qu3 (n:Nat) (p:Nat→Bool):(List.range (n+1)).all p=(p 0&&(List.range n).all fun i=>p (i+1)):=by
 rw [List.range_succ_eq_map,List.all_cons,List.all_map]
 rfl
theorem qw3 (s:ByteArray):qfl s=some (nameB s):=by
 unfold qfl nameB
 by_cases h1:(s.size:Int) < 1
 · have:¬ 1≤s.size:=by omega
   simp (disch:=omega) only [ckB_ix,qa,q6,qb,ckB_mk,ckB_ne,bif_lt,qf,bif_le,qc,bif_eq,qe,bif_ne,q9,qd,q4,q0,bnd_ok,lk_inl,lk_inr,Int.toNat_natCast,decide_true]
   rw [decide_eq_false this]; rfl
 · have h1':1≤s.size:=by omega
   rw [decide_eq_true h1']
   by_cases h2:40 < (s.size:Int)
   · have:¬ s.size≤40:=by omega
     simp (disch:=omega) only [ckB_ix,qa,q6,qb,ckB_mk,ckB_ne,bif_lt,qf,bif_le,qc,bif_eq,qe,bif_ne,q9,qd,q4,q0,bnd_ok,lk_inl,lk_inr,Int.toNat_natCast,decide_true]
     rw [decide_eq_false this]; rfl
   · have h2':s.size≤40:=by omega
     rw [decide_eq_true h2']
     have hL:qma s 1=some (bif (List.range (s.size - 1)).all (fun i=>partB (byt s (i+1))) then .inl () else .inr false):=by
       refine qdh (fun i:Nat=>((i+1:Nat):Int)) (s.size - 1) (q5u (by omega)) _ () false ?_ ?_ ?_
       · intro i hi hp
         unfold partB at hp
         simp (disch:=omega) only [q87,qjw,ckB_ix,qa,q6,qb,ckB_mk,ckB_ne,bif_lt,qf,bif_le,qc,bif_eq,qe,bif_ne,q9,qd,q4,q0,bnd_ok,lk_inl,lk_inr,Int.toNat_natCast,decide_true]
         rw [qm]
         revert hp
         cases letB (byt s (i+1))<;>cases decide ((48:Int)≤byt s (i+1))<;>cases decide (byt s (i+1)≤(57:Int))<;>cases decide (byt s (i+1)=(95:Int))<;>cases decide (byt s (i+1)=(45:Int))<;>cases decide (byt s (i+1)=(46:Int))<;>intro hp<;>first | rfl | cases hp
       · intro i hi hp
         unfold partB at hp
         simp (disch:=omega) only [q87,qjw,ckB_ix,qa,q6,qb,ckB_mk,ckB_ne,bif_lt,qf,bif_le,qc,bif_eq,qe,bif_ne,q9,qd,q4,q0,bnd_ok,lk_inl,lk_inr,Int.toNat_natCast,decide_true]
         revert hp
         cases letB (byt s (i+1))<;>cases decide ((48:Int)≤byt s (i+1))<;>cases decide (byt s (i+1)≤(57:Int))<;>cases decide (byt s (i+1)=(95:Int))<;>cases decide (byt s (i+1)=(45:Int))<;>cases decide (byt s (i+1)=(46:Int))<;>intro hp<;>first | rfl | cases hp
       · have e:s.size - 1+1=s.size:=by omega
         rw [e]
         simp (disch:=omega) only [q87,ckB_ix,qa,q6,qb,ckB_mk,ckB_ne,bif_lt,qf,bif_le,qc,bif_eq,qe,bif_ne,q9,qd,q4,q0,bnd_ok,lk_inl,lk_inr,Int.toNat_natCast,decide_true]
     simp (disch:=omega) only [qjw,hL,ckB_ix,qa,q6,qb,ckB_mk,ckB_ne,bif_lt,qf,bif_le,qc,bif_eq,qe,bif_ne,q9,qd,q4,q0,bnd_ok,lk_inl,lk_inr,Int.toNat_natCast,decide_true]
     have e:s.size=s.size - 1+1:=by omega
     have e2:(List.range s.size).all (fun i=>partB (byt s i))=(partB (byt s 0)&&(List.range (s.size - 1)).all fun i=>partB (byt s (i+1))):=by
       conv=>lhs; rw [e]
       exact qu3 _ _
     rw [e2]
     have e3:letB (byt s 0)=true→partB (byt s 0)=true:=fun h=>by unfold partB; rw [h]; rfl
     cases h:letB (byt s 0) with
     | false => rfl
     | true =>
       rw [e3 h]
       cases (List.range (s.size - 1)).all (fun i=>partB (byt s (i+1)))<;>rfl
def memB (l:List Int) (x:Int):Bool:=l.any fun y=>decide (x=y)
def meetB (a b:List Int):Bool:=a.any fun p=>memB b p
def badQ (N:Int) (l:List Int) (i:Nat):Bool:=decide (l.getD i 0 < 0)||decide (N≤l.getD i 0)||decide (0 < i)&&decide (l.getD i 0≤l.getD (i - 1) 0)
def setB (N:Int) (l:List Int):Bool:=(List.range l.length).all fun i=>!badQ N l i
theorem qqq (N:Int) (ts:List Trans) (a b:Int) (l:List Int) (h:l.length≤1000000):qmn l l (l.length:Int) N ts a b 0=some (bif (List.range l.length).all (fun i=>!badQ N l i) then .inl () else .inr false):=by
 have hst:∀ i:Nat,i < l.length→q5m l l (l.length:Int) N ts a b (R:=LR Int Unit Bool) (i:Int) (fun a'=>some (.next a')) (fun e=>some (.done e)) (fun r=>some (.ret r))=some (bif badQ N l i then .ret false else .next ((i+1:Nat):Int)):=fun i hi=>by
   unfold badQ
   by_cases h0:0 < i
   · have e:(i:Int) - 1=((i - 1:Nat):Int):=by omega
     have h0':(0:Int) < (i:Int):=by omega
     rw [decide_eq_true h0]
     simp (disch:=omega) only [q5m,e,ckB_ix,qa,q6,qb,ckB_mk,ckB_ne,bif_lt,qf,bif_le,qc,bif_eq,qe,bif_ne,q9,qd,q4,q0,bnd_ok,lk_inl,lk_inr,Int.toNat_natCast,decide_true]
     rw [qm]
     cases decide (l.getD i 0 < 0)<;>cases decide (N≤l.getD i 0)<;>cases decide (l.getD i 0≤l.getD (i - 1) 0)<;>rfl
   · have h0':¬ (0:Int) < (i:Int):=by omega
     rw [decide_eq_false h0]
     simp (disch:=omega) only [q5m,ckB_ix,qa,q6,qb,ckB_mk,ckB_ne,bif_lt,qf,bif_le,qc,bif_eq,qe,bif_ne,q9,qd,q4,q0,bnd_ok,lk_inl,lk_inr,Int.toNat_natCast,decide_true]
     rw [qm]
     cases decide (l.getD i 0 < 0)<;>cases decide (N≤l.getD i 0)<;>rfl
 refine qdh (fun i:Nat=>(i:Int)) l.length (q5u (by omega)) _ () false (fun i hi hp=>?_) (fun i hi hp=>?_) ?_
 · have hb:badQ N l i=false:=by simpa using hp
   exact (hst i hi).trans (by rw [hb]; rfl)
 · have hb:badQ N l i=true:=by simpa using hp
   exact (hst i hi).trans (by rw [hb]; rfl)
 · simp (disch:=omega) only [q5m,ckB_ix,qa,q6,qb,ckB_mk,ckB_ne,bif_lt,qf,bif_le,qc,bif_eq,qe,bif_ne,q9,qd,q4,q0,bnd_ok,lk_inl,lk_inr,Int.toNat_natCast,decide_true]
theorem qsv (N:Int) (ts:List Trans) (a b:Int) (l:List Int) (h:l.length≤1000000):qpz l l (l.length:Int) N ts a b 0=some (bif (List.range l.length).all (fun i=>!badQ N l i) then .inl () else .inr false):=by
 have hst:∀ i:Nat,i < l.length→q7s l l (l.length:Int) N ts a b (R:=LR Int Unit Bool) (i:Int) (fun a'=>some (.next a')) (fun e=>some (.done e)) (fun r=>some (.ret r))=some (bif badQ N l i then .ret false else .next ((i+1:Nat):Int)):=fun i hi=>by
   unfold badQ
   by_cases h0:0 < i
   · have e:(i:Int) - 1=((i - 1:Nat):Int):=by omega
     have h0':(0:Int) < (i:Int):=by omega
     rw [decide_eq_true h0]
     simp (disch:=omega) only [q7s,e,ckB_ix,qa,q6,qb,ckB_mk,ckB_ne,bif_lt,qf,bif_le,qc,bif_eq,qe,bif_ne,q9,qd,q4,q0,bnd_ok,lk_inl,lk_inr,Int.toNat_natCast,decide_true]
     rw [qm]
     cases decide (l.getD i 0 < 0)<;>cases decide (N≤l.getD i 0)<;>cases decide (l.getD i 0≤l.getD (i - 1) 0)<;>rfl
   · have h0':¬ (0:Int) < (i:Int):=by omega
     rw [decide_eq_false h0]
     simp (disch:=omega) only [q7s,ckB_ix,qa,q6,qb,ckB_mk,ckB_ne,bif_lt,qf,bif_le,qc,bif_eq,qe,bif_ne,q9,qd,q4,q0,bnd_ok,lk_inl,lk_inr,Int.toNat_natCast,decide_true]
     rw [qm]
     cases decide (l.getD i 0 < 0)<;>cases decide (N≤l.getD i 0)<;>rfl
 refine qdh (fun i:Nat=>(i:Int)) l.length (q5u (by omega)) _ () false (fun i hi hp=>?_) (fun i hi hp=>?_) ?_
 · have hb:badQ N l i=false:=by simpa using hp
   exact (hst i hi).trans (by rw [hb]; rfl)
 · have hb:badQ N l i=true:=by simpa using hp
   exact (hst i hi).trans (by rw [hb]; rfl)
 · simp (disch:=omega) only [q7s,ckB_ix,qa,q6,qb,ckB_mk,ckB_ne,bif_lt,qf,bif_le,qc,bif_eq,qe,bif_ne,q9,qd,q4,q0,bnd_ok,lk_inl,lk_inr,Int.toNat_natCast,decide_true]
theorem quf (N:Int) (ts:List Trans) (a b:Int) (l:List Int) (h:l.length≤1000000):qra l N ts a b 0=some (bif (List.range l.length).all (fun i=>!badQ N l i) then .inl () else .inr false):=by
 have hst:∀ i:Nat,i < l.length→q95 l N ts a b (R:=LR Int Unit Bool) (i:Int) (fun a'=>some (.next a')) (fun e=>some (.done e)) (fun r=>some (.ret r))=some (bif badQ N l i then .ret false else .next ((i+1:Nat):Int)):=fun i hi=>by
   unfold badQ
   by_cases h0:0 < i
   · have e:(i:Int) - 1=((i - 1:Nat):Int):=by omega
     have h0':(0:Int) < (i:Int):=by omega
     rw [decide_eq_true h0]
     simp (disch:=omega) only [q95,e,ckB_ix,qa,q6,qb,ckB_mk,ckB_ne,bif_lt,qf,bif_le,qc,bif_eq,qe,bif_ne,q9,qd,q4,q0,bnd_ok,lk_inl,lk_inr,Int.toNat_natCast,decide_true]
     rw [qm]
     cases decide (l.getD i 0 < 0)<;>cases decide (N≤l.getD i 0)<;>cases decide (l.getD i 0≤l.getD (i - 1) 0)<;>rfl
   · have h0':¬ (0:Int) < (i:Int):=by omega
     rw [decide_eq_false h0]
     simp (disch:=omega) only [q95,ckB_ix,qa,q6,qb,ckB_mk,ckB_ne,bif_lt,qf,bif_le,qc,bif_eq,qe,bif_ne,q9,qd,q4,q0,bnd_ok,lk_inl,lk_inr,Int.toNat_natCast,decide_true]
     rw [qm]
     cases decide (l.getD i 0 < 0)<;>cases decide (N≤l.getD i 0)<;>rfl
 refine qdh (fun i:Nat=>(i:Int)) l.length (q5u (by omega)) _ () false (fun i hi hp=>?_) (fun i hi hp=>?_) ?_
 · have hb:badQ N l i=false:=by simpa using hp
   exact (hst i hi).trans (by rw [hb]; rfl)
 · have hb:badQ N l i=true:=by simpa using hp
   exact (hst i hi).trans (by rw [hb]; rfl)
 · simp (disch:=omega) only [q95,ckB_ix,qa,q6,qb,ckB_mk,ckB_ne,bif_lt,qf,bif_le,qc,bif_eq,qe,bif_ne,q9,qd,q4,q0,bnd_ok,lk_inl,lk_inr,Int.toNat_natCast,decide_true]
theorem qqo (N:Int) (ts:List Trans) (a b:Int) (l:List Int) (h:l.length≤1000000):qn5 N l 0=some (bif (List.range l.length).all (fun i=>!badQ N l i) then .inl () else .inr false):=by
 have hst:∀ i:Nat,i < l.length→q5n N l (R:=LR Int Unit Bool) (i:Int) (fun a'=>some (.next a')) (fun e=>some (.done e)) (fun r=>some (.ret r))=some (bif badQ N l i then .ret false else .next ((i+1:Nat):Int)):=fun i hi=>by
   unfold badQ
   by_cases h0:0 < i
   · have e:(i:Int) - 1=((i - 1:Nat):Int):=by omega
     have h0':(0:Int) < (i:Int):=by omega
     rw [decide_eq_true h0]
     simp (disch:=omega) only [q5n,e,ckB_ix,qa,q6,qb,ckB_mk,ckB_ne,bif_lt,qf,bif_le,qc,bif_eq,qe,bif_ne,q9,qd,q4,q0,bnd_ok,lk_inl,lk_inr,Int.toNat_natCast,decide_true]
     rw [qm]
     cases decide (l.getD i 0 < 0)<;>cases decide (N≤l.getD i 0)<;>cases decide (l.getD i 0≤l.getD (i - 1) 0)<;>rfl
   · have h0':¬ (0:Int) < (i:Int):=by omega
     rw [decide_eq_false h0]
     simp (disch:=omega) only [q5n,ckB_ix,qa,q6,qb,ckB_mk,ckB_ne,bif_lt,qf,bif_le,qc,bif_eq,qe,bif_ne,q9,qd,q4,q0,bnd_ok,lk_inl,lk_inr,Int.toNat_natCast,decide_true]
     rw [qm]
     cases decide (l.getD i 0 < 0)<;>cases decide (N≤l.getD i 0)<;>rfl
 refine qdh (fun i:Nat=>(i:Int)) l.length (q5u (by omega)) _ () false (fun i hi hp=>?_) (fun i hi hp=>?_) ?_
 · have hb:badQ N l i=false:=by simpa using hp
   exact (hst i hi).trans (by rw [hb]; rfl)
 · have hb:badQ N l i=true:=by simpa using hp
   exact (hst i hi).trans (by rw [hb]; rfl)
 · simp (disch:=omega) only [q5n,ckB_ix,qa,q6,qb,ckB_mk,ckB_ne,bif_lt,qf,bif_le,qc,bif_eq,qe,bif_ne,q9,qd,q4,q0,bnd_ok,lk_inl,lk_inr,Int.toNat_natCast,decide_true]
theorem bif_id {b:Bool}:(lk (bif b then (.inl ():Unit⊕Bool) else .inr false) (fun _=>some true) fun r=>some r)=some b:=by cases b<;>rfl
theorem qae (n:Net) (l:List Int) (h:l.length≤1000000):q45 n l=some (setB n.1 l):=by
 unfold q45 setB
 rw [qqq n.1 n.2.1 n.2.2.1 n.2.2.2.1 l h,bnd_ok,bif_id]
theorem qoz (n:Net) (l:List Int) (h:l.length≤1000000):qbl n l=some (setB n.1 l):=by
 unfold qbl setB
 rw [qsv n.1 n.2.1 n.2.2.1 n.2.2.2.1 l h,bnd_ok,bif_id]
theorem qwd (n:Net) (l:List Int) (h:l.length≤1000000):qgz n l=some (setB n.1 l):=by
 unfold qgz setB
 rw [quf n.1 n.2.1 n.2.2.1 n.2.2.2.1 l h,bnd_ok,bif_id]
theorem ql2 (N:Int) (l:List Int) (h:l.length≤1000000):q6s N l=some (setB N l):=by
 unfold q6s setB
 rw [qqo N [] 0 0 l h,bnd_ok,bif_id]
structure Small (n:Net):Prop where
 trans:n.2.1.length≤100
 ins:∀ t∈n.2.1,t.2.1.length≤50
 outs:∀ t∈n.2.1,t.2.2.1.length≤50
def badT (N:Int) (t:Trans):Bool:=!eqS t.1 ⟨#[]⟩&&!nameB t.1||!setB N t.2.1||!setB N t.2.2.1
def validN (n:Net):Bool:=decide (1≤n.1)&&decide (n.1≤40)&&decide (n.2.1.length≤60)&&!n.2.1.any (badT n.1)&&(decide (0≤n.2.2.1)&&decide (n.2.2.1 < n.1))&&(decide (0≤n.2.2.2.1)&&decide (n.2.2.2.1 < n.1))
theorem qw8 (N x:Int):setB N [x]=(decide (0≤x)&&decide (x < N)):=by
 unfold setB badQ
 rw [Bool.eq_iff_iff]
 simp
theorem q11d {n:Net} (h:Small n):qa1 n=some (validN n):=by
 have hL:qp1 n.2.1 (n.2.1.length:Int) n.1 n.2.1 n.2.2.1 n.2.2.2.1 0=some (bif n.2.1.any (badT n.1) then .inr false else .inl ()):=by
   have hl:=h.trans
   refine qf3 n.2.1 Trans.z (badT n.1) false (by omega) (fun i hi=>?_) ?_
   · have h1:=h.ins _ (qt Trans.z hi)
     have h2:=h.outs _ (qt Trans.z hi)
     unfold badT
     simp (disch:=omega) only [qxy,qbs,q10i,ckB_ix,qa,q6,qb,ckB_mk,ckB_ne,bif_lt,qf,bif_le,qc,bif_eq,qe,bif_ne,q9,qd,q4,q0,bnd_ok,lk_inl,lk_inr,Int.toNat_natCast,decide_true]
     rw [qae _ _ (by omega),qae _ _ (by omega),qm]
     simp only [bnd_ok]
     cases eqS (n.2.1.getD i Trans.z).1 ⟨#[]⟩<;>cases nameB (n.2.1.getD i Trans.z).1<;>cases setB n.1 (n.2.1.getD i Trans.z).2.1<;>cases setB n.1 (n.2.1.getD i Trans.z).2.2.1<;>rfl
   · simp (disch:=omega) only [qbs,ckB_ix,qa,q6,qb,ckB_mk,ckB_ne,bif_lt,qf,bif_le,qc,bif_eq,qe,bif_ne,q9,qd,q4,q0,bnd_ok,lk_inl,lk_inr,Int.toNat_natCast,decide_true]
 unfold qa1 validN
 rw [hL,qae _ _ (by simp),qae _ _ (by simp),qw8,qw8]
 have e1:decide (1≤n.1)=!decide (n.1 < 1):=by rw [Bool.eq_iff_iff]; simp
 have e2:decide (n.1≤40)=!decide (40 < n.1):=by rw [Bool.eq_iff_iff]; simp
 have e3:decide (n.2.1.length≤60)=!decide ((60:Int) < (n.2.1.length:Int)):=by rw [Bool.eq_iff_iff]; simp; omega
 rw [e1,e2,e3]
 cases decide (n.1 < 1)<;>cases decide (40 < n.1)<;>cases decide ((60:Int) < (n.2.1.length:Int))<;>cases n.2.1.any (badT n.1)<;>cases (decide (0≤n.2.2.1)&&decide (n.2.2.1 < n.1))<;>cases (decide (0≤n.2.2.2.1)&&decide (n.2.2.2.1 < n.1))<;>rfl
theorem qr5 {n:Net} (h:Small n):qa2 n=some (validN n):=by
 have hL:qp7 n.1 n.2.1 n.2.2.1 n.2.2.2.1 0=some (bif n.2.1.any (badT n.1) then .inr false else .inl ()):=by
   have hl:=h.trans
   refine qf3 n.2.1 Trans.z (badT n.1) false (by omega) (fun i hi=>?_) ?_
   · have h1:=h.ins _ (qt Trans.z hi)
     have h2:=h.outs _ (qt Trans.z hi)
     unfold badT
     simp (disch:=omega) only [qxy,qbh,qw3,ckB_ix,qa,q6,qb,ckB_mk,ckB_ne,bif_lt,qf,bif_le,qc,bif_eq,qe,bif_ne,q9,qd,q4,q0,bnd_ok,lk_inl,lk_inr,Int.toNat_natCast,decide_true]
     rw [ql2 _ _ (by omega),ql2 _ _ (by omega),qm]
     simp only [bnd_ok]
     cases eqS (n.2.1.getD i Trans.z).1 ⟨#[]⟩<;>cases nameB (n.2.1.getD i Trans.z).1<;>cases setB n.1 (n.2.1.getD i Trans.z).2.1<;>cases setB n.1 (n.2.1.getD i Trans.z).2.2.1<;>rfl
   · simp (disch:=omega) only [qbh,ckB_ix,qa,q6,qb,ckB_mk,ckB_ne,bif_lt,qf,bif_le,qc,bif_eq,qe,bif_ne,q9,qd,q4,q0,bnd_ok,lk_inl,lk_inr,Int.toNat_natCast,decide_true]
 unfold qa2 validN
 rw [hL]
 have e1:decide (1≤n.1)=!decide (n.1 < 1):=by rw [Bool.eq_iff_iff]; simp
 have e2:decide (n.1≤40)=!decide (40 < n.1):=by rw [Bool.eq_iff_iff]; simp
 have e3:decide (n.2.1.length≤60)=!decide ((60:Int) < (n.2.1.length:Int)):=by rw [Bool.eq_iff_iff]; simp; omega
 have e4:∀ x:Int,decide (0≤x)=!decide (x < 0):=fun x=>by rw [Bool.eq_iff_iff]; simp
 have e5:∀ x:Int,decide (x < n.1)=!decide (n.1≤x):=fun x=>by rw [Bool.eq_iff_iff]; simp
 rw [e1,e2,e3,e4 n.2.2.1,e4 n.2.2.2.1,e5 n.2.2.1,e5 n.2.2.2.1]
 cases decide (n.1 < 1)<;>cases decide (40 < n.1)<;>cases decide ((60:Int) < (n.2.1.length:Int))<;>cases n.2.1.any (badT n.1)<;>cases decide (n.2.2.1 < 0)<;>cases decide (n.1≤n.2.2.1)<;>cases decide (n.2.2.2.1 < 0)<;>cases decide (n.1≤n.2.2.2.1)<;>rfl
theorem q10u (n:Net):∃ b,qgt n=some b∧(b=false→Small n∧(n.2.1.length≤12∨60 < n.2.1.length)∧(n.1≤10∨16 < n.1)):=by
 have h1:∀ t:Trans,qd0 t=some (decide ((50:Int) < (t.2.1.length:Int))||decide ((50:Int) < (t.2.2.1.length:Int))||decide ((200:Int) < (t.1.size:Int))):=fun t=>by
   unfold qd0
   cases decide ((50:Int) < (t.2.1.length:Int))<;>cases decide ((50:Int) < (t.2.2.1.length:Int))<;>rfl
 have hC:n.2.1.length≤100→qn n.2.1=some (n.2.1.any fun t=>decide ((50:Int) < (t.2.1.length:Int))||decide ((50:Int) < (t.2.2.1.length:Int))||decide ((200:Int) < (t.1.size:Int))):=fun hl=>by
   have hL:q3v n.2.1 (n.2.1.length:Int) 0=some (fOut (fun i=>(i:Int)) (fidx (fun t:Trans=>decide ((50:Int) < (t.2.1.length:Int))||decide ((50:Int) < (t.2.2.1.length:Int))||decide ((200:Int) < (t.1.size:Int))) n.2.1)):=by
     refine qe4 n.2.1 Trans.z (fun t:Trans=>decide ((50:Int) < (t.2.1.length:Int))||decide ((50:Int) < (t.2.2.1.length:Int))||decide ((200:Int) < (t.1.size:Int))) (fun i=>(i:Int)) (by omega) (fun i hi=>?_) ?_
     · simp (disch:=omega) only [q11,h1,ckB_ix,qa,q6,qb,ckB_mk,ckB_ne,bif_lt,qf,bif_le,qc,bif_eq,qe,bif_ne,q9,qd,q4,q0,bnd_ok,lk_inl,lk_inr,Int.toNat_natCast,decide_true]
       rw [qm]
       exact q10r
     · simp (disch:=omega) only [q11,ckB_ix,qa,q6,qb,ckB_mk,ckB_ne,bif_lt,qf,bif_le,qc,bif_eq,qe,bif_ne,q9,qd,q4,q0,bnd_ok,lk_inl,lk_inr,Int.toNat_natCast,decide_true]
   unfold qn q1q
   rw [hL,bnd_ok,qn7,bnd_ok,qmm]
 have hF:n.2.1.length≤100→(n.2.1.any fun t=>decide ((50:Int) < (t.2.1.length:Int))||decide ((50:Int) < (t.2.2.1.length:Int))||decide ((200:Int) < (t.1.size:Int)))=false→Small n:=fun hl ha=>by
   have key:∀ t∈n.2.1,t.2.1.length≤50∧t.2.2.1.length≤50:=fun t ht=>by
     have:=List.any_eq_false.1 ha t ht
     simp only [Bool.or_eq_true,decide_eq_true_eq,not_or] at this
     omega
   exact ⟨hl,fun t ht=>(key t ht).1,fun t ht=>(key t ht).2⟩
 unfold qgt
 by_cases c1:(100:Int) < (n.2.1.length:Int)
 · refine ⟨true,?_,fun h=>by cases h⟩
   by_cases c2:(n.2.1.length:Int)≤60
   · omega
   · simp (disch:=omega) only [ckB_ix,qa,q6,qb,ckB_mk,ckB_ne,bif_lt,qf,bif_le,qc,bif_eq,qe,bif_ne,q9,qd,q4,q0,bnd_ok,lk_inl,lk_inr,Int.toNat_natCast,decide_true]
 · have hl:n.2.1.length≤100:=by omega
   by_cases c3:(10:Int) < n.1
   · by_cases c4:n.1≤16
     · refine ⟨true,?_,fun h=>by cases h⟩
       by_cases c2:(12:Int) < (n.2.1.length:Int)
       · by_cases c5:(n.2.1.length:Int)≤60
         · simp (disch:=omega) only [ckB_ix,qa,q6,qb,ckB_mk,ckB_ne,bif_lt,qf,bif_le,qc,bif_eq,qe,bif_ne,q9,qd,q4,q0,bnd_ok,lk_inl,lk_inr,Int.toNat_natCast,decide_true]
         · simp (disch:=omega) only [ckB_ix,qa,q6,qb,ckB_mk,ckB_ne,bif_lt,qf,bif_le,qc,bif_eq,qe,bif_ne,q9,qd,q4,q0,bnd_ok,lk_inl,lk_inr,Int.toNat_natCast,decide_true]
       · simp (disch:=omega) only [ckB_ix,qa,q6,qb,ckB_mk,ckB_ne,bif_lt,qf,bif_le,qc,bif_eq,qe,bif_ne,q9,qd,q4,q0,bnd_ok,lk_inl,lk_inr,Int.toNat_natCast,decide_true]
     · by_cases c2:(12:Int) < (n.2.1.length:Int)
       · by_cases c5:(n.2.1.length:Int)≤60
         · exact ⟨true,by simp (disch:=omega) only [ckB_ix,qa,q6,qb,ckB_mk,ckB_ne,bif_lt,qf,bif_le,qc,bif_eq,qe,bif_ne,q9,qd,q4,q0,bnd_ok,lk_inl,lk_inr,Int.toNat_natCast,decide_true],fun h=>by cases h⟩
         · exact ⟨_,by simp (disch:=omega) only [hC hl,ckB_ix,qa,q6,qb,ckB_mk,ckB_ne,bif_lt,qf,bif_le,qc,bif_eq,qe,bif_ne,q9,qd,q4,q0,bnd_ok,lk_inl,lk_inr,Int.toNat_natCast,decide_true],fun h=>⟨hF hl h,by omega,by omega⟩⟩
       · exact ⟨_,by simp (disch:=omega) only [hC hl,ckB_ix,qa,q6,qb,ckB_mk,ckB_ne,bif_lt,qf,bif_le,qc,bif_eq,qe,bif_ne,q9,qd,q4,q0,bnd_ok,lk_inl,lk_inr,Int.toNat_natCast,decide_true],fun h=>⟨hF hl h,by omega,by omega⟩⟩
   · by_cases c2:(12:Int) < (n.2.1.length:Int)
     · by_cases c5:(n.2.1.length:Int)≤60
       · exact ⟨true,by simp (disch:=omega) only [ckB_ix,qa,q6,qb,ckB_mk,ckB_ne,bif_lt,qf,bif_le,qc,bif_eq,qe,bif_ne,q9,qd,q4,q0,bnd_ok,lk_inl,lk_inr,Int.toNat_natCast,decide_true],fun h=>by cases h⟩
       · exact ⟨_,by simp (disch:=omega) only [hC hl,ckB_ix,qa,q6,qb,ckB_mk,ckB_ne,bif_lt,qf,bif_le,qc,bif_eq,qe,bif_ne,q9,qd,q4,q0,bnd_ok,lk_inl,lk_inr,Int.toNat_natCast,decide_true],fun h=>⟨hF hl h,by omega,by omega⟩⟩
     · exact ⟨_,by simp (disch:=omega) only [hC hl,ckB_ix,qa,q6,qb,ckB_mk,ckB_ne,bif_lt,qf,bif_le,qc,bif_eq,qe,bif_ne,q9,qd,q4,q0,bnd_ok,lk_inl,lk_inr,Int.toNat_natCast,decide_true],fun h=>⟨hF hl h,by omega,by omega⟩⟩
end Go.Proofs.Ytjhojmninmipcaa
