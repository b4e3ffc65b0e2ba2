/-
  Siphon: names, lists of places, nets: the program and the reference reckon alike.
-/
import Derived.Test.YtjhojmninmipcaaZ5Md
import Derived.Test.YtjhojmninmipcaaZ5KE
import Derived.KernelRfl
set_option linter.all false
namespace Go.Proofs.Ytjhojmninmipcaa
open Go.K Go.M
theorem q14j:qp6=some true:=by kernel_rfl
def eqS (a b:ByteArray):Bool:=ByteArray.toList a == ByteArray.toList b
theorem q12s (a b:ByteArray):(ByteArray.toList a == ByteArray.toList b)=eqS a b:=rfl
def letB (c:Int):Bool:=decide (65 ≤ c) && decide (c ≤ 90) || decide (97 ≤ c) && decide (c ≤ 122)
def partB (c:Int):Bool:=letB c || decide (48 ≤ c) && decide (c ≤ 57) || decide (c=95) || decide (c=45) || decide (c=46)
abbrev byt (s:ByteArray) (i:Nat):Int:=((ByteArray.data s).getD i 0).toNat
theorem qzq (c:Int):qel c=some (letB c):=by
  unfold qel letB
  cases decide ((65:Int) ≤ c) <;> cases decide (c ≤ (90:Int)) <;> cases decide ((97:Int) ≤ c) <;> cases decide (c ≤ (122:Int)) <;> rfl
theorem qm0 (c:Int):qdc c=some (letB c):=by
  unfold qdc letB
  cases decide ((65:Int) ≤ c) <;> cases decide (c ≤ (90:Int)) <;> cases decide ((97:Int) ≤ c) <;> cases decide (c ≤ (122:Int)) <;> rfl
theorem q13m (c:Int):qoo c=some (partB c):=by
  unfold qoo partB
  rw [qzq,bnd_ok]
  cases letB c <;> cases decide ((48:Int) ≤ c) <;> cases decide (c ≤ (57:Int)) <;> cases decide (c=(95:Int)) <;> cases decide (c=(45:Int)) <;> cases decide (c=(46:Int)) <;> rfl
def nameB (s:ByteArray):Bool:=decide (1 ≤ s.size) && decide (s.size ≤ 40) && letB (byt s 0) && (List.range s.size).all fun i=>partB (byt s i)
theorem q14z (s:ByteArray):qj6 s=some (nameB s):=by
  unfold qj6 nameB
  by_cases h1:(s.size:Int) < 1
  · have:¬ 1 ≤ s.size:=by omega
    simp (disch:=omega) only [ckB_ix,q7,q6,qa,ckB_mk,ckB_ne,bif_lt,q8,bif_le,qb,bif_eq,qc,bif_ne,qd,q9,q5,q4,bnd_ok,lk_inl,lk_inr,Int.toNat_natCast,decide_true]
    rw [decide_eq_false this]; rfl
  · have h1':1 ≤ s.size:=by omega
    rw [decide_eq_true h1']
    by_cases h2:40 < (s.size:Int)
    · have:¬ s.size ≤ 40:=by omega
      simp (disch:=omega) only [ckB_ix,q7,q6,qa,ckB_mk,ckB_ne,bif_lt,q8,bif_le,qb,bif_eq,qc,bif_ne,qd,q9,q5,q4,bnd_ok,lk_inl,lk_inr,Int.toNat_natCast,decide_true]
      rw [decide_eq_false this]; rfl
    · have h2':s.size ≤ 40:=by omega
      rw [decide_eq_true h2']
      have hL:qrw s (s.size:Int) 0=some (bif (List.range s.size).all (fun i=>partB (byt s i)) then .inl () else .inr false):=by
        refine qqx (fun i:Nat=>(i:Int)) s.size (q3l (by omega)) _ () false ?_ ?_ ?_
        · intro i hi hp
          simp (disch:=omega) only [qay,q13m,hp,Bool.not_true,ckB_ix,q7,q6,qa,ckB_mk,ckB_ne,bif_lt,q8,bif_le,qb,bif_eq,qc,bif_ne,qd,q9,q5,q4,bnd_ok,lk_inl,lk_inr,Int.toNat_natCast,decide_true]
          rw [qg]
        · intro i hi hp
          simp (disch:=omega) only [qay,q13m,hp,Bool.not_false,ckB_ix,q7,q6,qa,ckB_mk,ckB_ne,bif_lt,q8,bif_le,qb,bif_eq,qc,bif_ne,qd,q9,q5,q4,bnd_ok,lk_inl,lk_inr,Int.toNat_natCast,decide_true]
        · simp (disch:=omega) only [qay,ckB_ix,q7,q6,qa,ckB_mk,ckB_ne,bif_lt,q8,bif_le,qb,bif_eq,qc,bif_ne,qd,q9,q5,q4,bnd_ok,lk_inl,lk_inr,Int.toNat_natCast,decide_true]
      simp (disch:=omega) only [qzq,hL,ckB_ix,q7,q6,qa,ckB_mk,ckB_ne,bif_lt,q8,bif_le,qb,bif_eq,qc,bif_ne,qd,q9,q5,q4,bnd_ok,lk_inl,lk_inr,Int.toNat_natCast,decide_true]
      cases letB (byt s 0) with
      | false => rfl
      | true => cases (List.range s.size).all (fun i=>partB (byt s i)) <;> rfl
theorem qyl (n:Nat) (p:Nat → Bool):(List.range (n + 1)).all p=(p 0 && (List.range n).all fun i=>p (i + 1)):=by
  rw [List.range_succ_eq_map,List.all_cons,List.all_map]
  rfl
theorem q11p (s:ByteArray):qhe s=some (nameB s):=by
  unfold qhe nameB
  by_cases h1:(s.size:Int) < 1
  · have:¬ 1 ≤ s.size:=by omega
    simp (disch:=omega) only [ckB_ix,q7,q6,qa,ckB_mk,ckB_ne,bif_lt,q8,bif_le,qb,bif_eq,qc,bif_ne,qd,q9,q5,q4,bnd_ok,lk_inl,lk_inr,Int.toNat_natCast,decide_true]
    rw [decide_eq_false this]; rfl
  · have h1':1 ≤ s.size:=by omega
    rw [decide_eq_true h1']
    by_cases h2:40 < (s.size:Int)
    · have:¬ s.size ≤ 40:=by omega
      simp (disch:=omega) only [ckB_ix,q7,q6,qa,ckB_mk,ckB_ne,bif_lt,q8,bif_le,qb,bif_eq,qc,bif_ne,qd,q9,q5,q4,bnd_ok,lk_inl,lk_inr,Int.toNat_natCast,decide_true]
      rw [decide_eq_false this]; rfl
    · have h2':s.size ≤ 40:=by omega
      rw [decide_eq_true h2']
      have hL:qpv s 1=some (bif (List.range (s.size - 1)).all (fun i=>partB (byt s (i + 1))) then .inl () else .inr false):=by
        refine qqx (fun i:Nat=>((i + 1:Nat):Int)) (s.size - 1) (q3l (by omega)) _ () false ?_ ?_ ?_
        · intro i hi hp
          unfold partB at hp
          simp (disch:=omega) only [q9p,qm0,ckB_ix,q7,q6,qa,ckB_mk,ckB_ne,bif_lt,q8,bif_le,qb,bif_eq,qc,bif_ne,qd,q9,q5,q4,bnd_ok,lk_inl,lk_inr,Int.toNat_natCast,decide_true]
          rw [qg]
          revert hp
          cases letB (byt s (i + 1)) <;> cases decide ((48:Int) ≤ byt s (i + 1)) <;> cases decide (byt s (i + 1) ≤ (57:Int)) <;> cases decide (byt s (i + 1)=(95:Int)) <;> cases decide (byt s (i + 1)=(45:Int)) <;> cases decide (byt s (i + 1)=(46:Int)) <;> intro hp <;> first | rfl | cases hp
        · intro i hi hp
          unfold partB at hp
          simp (disch:=omega) only [q9p,qm0,ckB_ix,q7,q6,qa,ckB_mk,ckB_ne,bif_lt,q8,bif_le,qb,bif_eq,qc,bif_ne,qd,q9,q5,q4,bnd_ok,lk_inl,lk_inr,Int.toNat_natCast,decide_true]
          revert hp
          cases letB (byt s (i + 1)) <;> cases decide ((48:Int) ≤ byt s (i + 1)) <;> cases decide (byt s (i + 1) ≤ (57:Int)) <;> cases decide (byt s (i + 1)=(95:Int)) <;> cases decide (byt s (i + 1)=(45:Int)) <;> cases decide (byt s (i + 1)=(46:Int)) <;> intro hp <;> first | rfl | cases hp
        · have e:s.size - 1 + 1=s.size:=by omega
          rw [e]
          simp (disch:=omega) only [q9p,ckB_ix,q7,q6,qa,ckB_mk,ckB_ne,bif_lt,q8,bif_le,qb,bif_eq,qc,bif_ne,qd,q9,q5,q4,bnd_ok,lk_inl,lk_inr,Int.toNat_natCast,decide_true]
      simp (disch:=omega) only [qm0,hL,ckB_ix,q7,q6,qa,ckB_mk,ckB_ne,bif_lt,q8,bif_le,qb,bif_eq,qc,bif_ne,qd,q9,q5,q4,bnd_ok,lk_inl,lk_inr,Int.toNat_natCast,decide_true]
      have e:s.size=s.size - 1 + 1:=by omega
      have e2:(List.range s.size).all (fun i=>partB (byt s i))=(partB (byt s 0) && (List.range (s.size - 1)).all fun i=>partB (byt s (i + 1))):=by
        conv=>lhs; rw [e]
        exact qyl _ _
      rw [e2]
      have e3:letB (byt s 0)=true → partB (byt s 0)=true:=fun h=>by unfold partB; rw [h]; rfl
      cases h:letB (byt s 0) with
      | false => rfl
      | true =>
        rw [e3 h]
        cases (List.range (s.size - 1)).all (fun i=>partB (byt s (i + 1))) <;> rfl
def memB (l:List Int) (x:Int):Bool:=l.any fun y=>decide (x=y)
theorem q6n {l:List Int} {x:Int}:memB l x=true ↔ x ∈ l:=by
  unfold memB
  rw [List.any_eq_true]
  constructor
  · rintro ⟨y,hy,h⟩
    rw [of_decide_eq_true h]; exact hy
  · intro h
    exact ⟨x,h,decide_eq_true rfl⟩
theorem q168 {l:List Int} {x:Int}:memB l x=false ↔ x ∉ l:=by
  rw [← q6n]
  cases memB l x <;> simp
theorem qv2 (l:List Int) (h:l.length ≤ 1000000) (x:Int):q43 l x=some (memB l x):=by
  have hL:qem l x (l.length:Int) 0=some (fOut (fun i=>(i:Int)) (fidx (fun y=>decide (x=y)) l)):=by
    refine q74 l 0 (fun y=>decide (x=y)) (fun i=>(i:Int)) (by omega) (fun i hi=>?_) ?_
    · simp (disch:=omega) only [q65,ckB_ix,q7,q6,qa,ckB_mk,ckB_ne,bif_lt,q8,bif_le,qb,bif_eq,qc,bif_ne,qd,q9,q5,q4,bnd_ok,lk_inl,lk_inr,Int.toNat_natCast,decide_true]
      rw [qg]
      cases decide (x=l.getD i 0) <;> rfl
    · simp (disch:=omega) only [q65,ckB_ix,q7,q6,qa,ckB_mk,ckB_ne,bif_lt,q8,bif_le,qb,bif_eq,qc,bif_ne,qd,q9,q5,q4,bnd_ok,lk_inl,lk_inr,Int.toNat_natCast,decide_true]
  unfold q43 qbw
  rw [hL,bnd_ok,qg9,bnd_ok,qiw]
  rfl
theorem Has_eq (l:List Int) (h:l.length ≤ 1000000) (x:Int):qja l x=some (memB l x):=by
  have hL:quy l x 0=some (bif l.any (fun y=>decide (y=x)) then .inr true else .inl ()):=by
    refine qbu l 0 (fun y=>decide (y=x)) true (by omega) (fun i hi=>?_) ?_
    · simp (disch:=omega) only [qgs,ckB_ix,q7,q6,qa,ckB_mk,ckB_ne,bif_lt,q8,bif_le,qb,bif_eq,qc,bif_ne,qd,q9,q5,q4,bnd_ok,lk_inl,lk_inr,Int.toNat_natCast,decide_true]
      rw [qg]
      cases decide (l.getD i 0=x) <;> rfl
    · simp (disch:=omega) only [qgs,ckB_ix,q7,q6,qa,ckB_mk,ckB_ne,bif_lt,q8,bif_le,qb,bif_eq,qc,bif_ne,qd,q9,q5,q4,bnd_ok,lk_inl,lk_inr,Int.toNat_natCast,decide_true]
  unfold qja memB
  have e:(l.any fun y=>decide (x=y))=l.any fun y=>decide (y=x):=q14h fun y _=>decide_eq_decide.2 ⟨Eq.symm,Eq.symm⟩
  rw [hL,bnd_ok,e]
  cases l.any (fun y=>decide (y=x)) <;> rfl
def meetB (a b:List Int):Bool:=a.any fun p=>memB b p
theorem qwb (a b:List Int) (ha:a.length ≤ 1000000) (hb:b.length ≤ 1000000):qb8 a b=some (meetB a b):=by
  have hL:q9e a b (a.length:Int) 0=some (fOut (fun i=>(i:Int)) (fidx (fun p=>memB b p) a)):=by
    refine q74 a 0 (fun p=>memB b p) (fun i=>(i:Int)) (by omega) (fun i hi=>?_) ?_
    · simp (disch:=omega) only [q33,qil,qv2 b hb,ckB_ix,q7,q6,qa,ckB_mk,ckB_ne,bif_lt,q8,bif_le,qb,bif_eq,qc,bif_ne,qd,q9,q5,q4,bnd_ok,lk_inl,lk_inr,Int.toNat_natCast,decide_true]
      rw [qg]
      cases memB b (a.getD i 0) <;> rfl
    · simp (disch:=omega) only [q33,ckB_ix,q7,q6,qa,ckB_mk,ckB_ne,bif_lt,q8,bif_le,qb,bif_eq,qc,bif_ne,qd,q9,q5,q4,bnd_ok,lk_inl,lk_inr,Int.toNat_natCast,decide_true]
  unfold qb8 q55 q6f
  rw [hL,bnd_ok,qg9,bnd_ok,bnd_ok,qiw]
  rfl
theorem qtz (a b:List Int) (ha:a.length ≤ 1000000) (hb:b.length ≤ 1000000):qb2 a b=some (meetB a b):=by
  have hL:qq0 a b 0=some (bif a.any (fun p=>memB b p) then .inr true else .inl ()):=by
    refine qbu a 0 (fun p=>memB b p) true (by omega) (fun i hi=>?_) ?_
    · simp (disch:=omega) only [qci,Has_eq b hb,ckB_ix,q7,q6,qa,ckB_mk,ckB_ne,bif_lt,q8,bif_le,qb,bif_eq,qc,bif_ne,qd,q9,q5,q4,bnd_ok,lk_inl,lk_inr,Int.toNat_natCast,decide_true]
      rw [qg]
      cases memB b (a.getD i 0) <;> rfl
    · simp (disch:=omega) only [qci,ckB_ix,q7,q6,qa,ckB_mk,ckB_ne,bif_lt,q8,bif_le,qb,bif_eq,qc,bif_ne,qd,q9,q5,q4,bnd_ok,lk_inl,lk_inr,Int.toNat_natCast,decide_true]
  unfold qb2 meetB
  rw [hL,bnd_ok]
  cases a.any (fun p=>memB b p) <;> rfl
def badQ (N:Int) (l:List Int) (i:Nat):Bool:=decide (l.getD i 0 < 0) || decide (N ≤ l.getD i 0) || decide (0 < i) && decide (l.getD i 0 ≤ l.getD (i - 1) 0)
def setB (N:Int) (l:List Int):Bool:=(List.range l.length).all fun i=>!badQ N l i
theorem quv (N:Int) (ts:List Trans) (a b:Int) (l:List Int) (h:l.length ≤ 1000000):qqj l l (l.length:Int) N ts a b 0=some (bif (List.range l.length).all (fun i=>!badQ N l i) then .inl () else .inr false):=by
  have hst:∀ i:Nat,i < l.length → q7k l l (l.length:Int) N ts a b (R:=LR Int Unit Bool) (i:Int) (fun a'=>some (.next a')) (fun e=>some (.done e)) (fun r=>some (.ret r))=some (bif badQ N l i then .ret false else .next ((i + 1:Nat):Int)):=fun i hi=>by
    unfold badQ
    by_cases h0:0 < i
    · have e:(i:Int) - 1=((i - 1:Nat):Int):=by omega
      have h0':(0:Int) < (i:Int):=by omega
      rw [decide_eq_true h0]
      simp (disch:=omega) only [q7k,e,ckB_ix,q7,q6,qa,ckB_mk,ckB_ne,bif_lt,q8,bif_le,qb,bif_eq,qc,bif_ne,qd,q9,q5,q4,bnd_ok,lk_inl,lk_inr,Int.toNat_natCast,decide_true]
      rw [qg]
      cases decide (l.getD i 0 < 0) <;> cases decide (N ≤ l.getD i 0) <;> cases decide (l.getD i 0 ≤ l.getD (i - 1) 0) <;> rfl
    · have h0':¬ (0:Int) < (i:Int):=by omega
      rw [decide_eq_false h0]
      simp (disch:=omega) only [q7k,ckB_ix,q7,q6,qa,ckB_mk,ckB_ne,bif_lt,q8,bif_le,qb,bif_eq,qc,bif_ne,qd,q9,q5,q4,bnd_ok,lk_inl,lk_inr,Int.toNat_natCast,decide_true]
      rw [qg]
      cases decide (l.getD i 0 < 0) <;> cases decide (N ≤ l.getD i 0) <;> rfl
  refine qqx (fun i:Nat=>(i:Int)) l.length (q3l (by omega)) _ () false (fun i hi hp=>?_) (fun i hi hp=>?_) ?_
  · have hb:badQ N l i=false:=by simpa using hp
    exact (hst i hi).trans (by rw [hb]; rfl)
  · have hb:badQ N l i=true:=by simpa using hp
    exact (hst i hi).trans (by rw [hb]; rfl)
  · simp (disch:=omega) only [q7k,ckB_ix,q7,q6,qa,ckB_mk,ckB_ne,bif_lt,q8,bif_le,qb,bif_eq,qc,bif_ne,qd,q9,q5,q4,bnd_ok,lk_inl,lk_inr,Int.toNat_natCast,decide_true]
theorem qun (N:Int) (ts:List Trans) (a b:Int) (l:List Int) (h:l.length ≤ 1000000):qqd N l 0=some (bif (List.range l.length).all (fun i=>!badQ N l i) then .inl () else .inr false):=by
  have hst:∀ i:Nat,i < l.length → q7m N l (R:=LR Int Unit Bool) (i:Int) (fun a'=>some (.next a')) (fun e=>some (.done e)) (fun r=>some (.ret r))=some (bif badQ N l i then .ret false else .next ((i + 1:Nat):Int)):=fun i hi=>by
    unfold badQ
    by_cases h0:0 < i
    · have e:(i:Int) - 1=((i - 1:Nat):Int):=by omega
      have h0':(0:Int) < (i:Int):=by omega
      rw [decide_eq_true h0]
      simp (disch:=omega) only [q7m,e,ckB_ix,q7,q6,qa,ckB_mk,ckB_ne,bif_lt,q8,bif_le,qb,bif_eq,qc,bif_ne,qd,q9,q5,q4,bnd_ok,lk_inl,lk_inr,Int.toNat_natCast,decide_true]
      rw [qg]
      cases decide (l.getD i 0 < 0) <;> cases decide (N ≤ l.getD i 0) <;> cases decide (l.getD i 0 ≤ l.getD (i - 1) 0) <;> rfl
    · have h0':¬ (0:Int) < (i:Int):=by omega
      rw [decide_eq_false h0]
      simp (disch:=omega) only [q7m,ckB_ix,q7,q6,qa,ckB_mk,ckB_ne,bif_lt,q8,bif_le,qb,bif_eq,qc,bif_ne,qd,q9,q5,q4,bnd_ok,lk_inl,lk_inr,Int.toNat_natCast,decide_true]
      rw [qg]
      cases decide (l.getD i 0 < 0) <;> cases decide (N ≤ l.getD i 0) <;> rfl
  refine qqx (fun i:Nat=>(i:Int)) l.length (q3l (by omega)) _ () false (fun i hi hp=>?_) (fun i hi hp=>?_) ?_
  · have hb:badQ N l i=false:=by simpa using hp
    exact (hst i hi).trans (by rw [hb]; rfl)
  · have hb:badQ N l i=true:=by simpa using hp
    exact (hst i hi).trans (by rw [hb]; rfl)
  · simp (disch:=omega) only [q7m,ckB_ix,q7,q6,qa,ckB_mk,ckB_ne,bif_lt,q8,bif_le,qb,bif_eq,qc,bif_ne,qd,q9,q5,q4,bnd_ok,lk_inl,lk_inr,Int.toNat_natCast,decide_true]
theorem bif_id {b:Bool}:(lk (bif b then (.inl ():Unit ⊕ Bool) else .inr false) (fun _=>some true) fun r=>some r)=some b:=by cases b <;> rfl
theorem qcl (n:Net) (l:List Int) (h:l.length ≤ 1000000):q5g n l=some (setB n.1 l):=by
  unfold q5g setB
  rw [quv n.1 n.2.1 n.2.2.1 n.2.2.2.1 l h,bnd_ok,bif_id]
theorem qos (N:Int) (l:List Int) (h:l.length ≤ 1000000):q89 N l=some (setB N l):=by
  unfold q89 setB
  rw [qun N [] 0 0 l h,bnd_ok,bif_id]
structure Small (n:Net):Prop where
  trans:n.2.1.length ≤ 100
  ins:∀ t ∈ n.2.1,t.2.1.length ≤ 50
  outs:∀ t ∈ n.2.1,t.2.2.1.length ≤ 50
def badT (N:Int) (t:Trans):Bool:=!eqS t.1 ⟨#[]⟩ && !nameB t.1 || !setB N t.2.1 || !setB N t.2.2.1
def validN (n:Net):Bool:=decide (1 ≤ n.1) && decide (n.1 ≤ 40) && decide (n.2.1.length ≤ 60) && !n.2.1.any (badT n.1) && (decide (0 ≤ n.2.2.1) && decide (n.2.2.1 < n.1)) && (decide (0 ≤ n.2.2.2.1) && decide (n.2.2.2.1 < n.1))
theorem q11j (N x:Int):setB N [x]=(decide (0 ≤ x) && decide (x < N)):=by
  unfold setB badQ
  rw [Bool.eq_iff_iff]
  simp
theorem qwk {n:Net} (h:Small n):qa4 n=some (validN n):=by
  have hL:qsi n.2.1 (n.2.1.length:Int) n.1 n.2.1 n.2.2.1 n.2.2.2.1 0=some (bif n.2.1.any (badT n.1) then .inr false else .inl ()):=by
    have hl:=h.trans
    refine qbu n.2.1 Trans.z (badT n.1) false (by omega) (fun i hi=>?_) ?_
    · have h1:=h.ins _ (qr Trans.z hi)
      have h2:=h.outs _ (qr Trans.z hi)
      unfold badT
      simp (disch:=omega) only [q12s,qdn,q14z,ckB_ix,q7,q6,qa,ckB_mk,ckB_ne,bif_lt,q8,bif_le,qb,bif_eq,qc,bif_ne,qd,q9,q5,q4,bnd_ok,lk_inl,lk_inr,Int.toNat_natCast,decide_true]
      rw [qcl _ _ (by omega),qcl _ _ (by omega),qg]
      simp only [bnd_ok]
      cases eqS (n.2.1.getD i Trans.z).1 ⟨#[]⟩ <;> cases nameB (n.2.1.getD i Trans.z).1 <;> cases setB n.1 (n.2.1.getD i Trans.z).2.1 <;> cases setB n.1 (n.2.1.getD i Trans.z).2.2.1 <;> rfl
    · simp (disch:=omega) only [qdn,ckB_ix,q7,q6,qa,ckB_mk,ckB_ne,bif_lt,q8,bif_le,qb,bif_eq,qc,bif_ne,qd,q9,q5,q4,bnd_ok,lk_inl,lk_inr,Int.toNat_natCast,decide_true]
  unfold qa4 validN
  rw [hL,qcl _ _ (by simp),qcl _ _ (by simp),q11j,q11j]
  have e1:decide (1 ≤ n.1)=!decide (n.1 < 1):=by rw [Bool.eq_iff_iff]; simp
  have e2:decide (n.1 ≤ 40)=!decide (40 < n.1):=by rw [Bool.eq_iff_iff]; simp
  have e3:decide (n.2.1.length ≤ 60)=!decide ((60:Int) < (n.2.1.length:Int)):=by rw [Bool.eq_iff_iff]; simp; omega
  rw [e1,e2,e3]
  cases decide (n.1 < 1) <;> cases decide (40 < n.1) <;> cases decide ((60:Int) < (n.2.1.length:Int)) <;> cases n.2.1.any (badT n.1) <;> cases (decide (0 ≤ n.2.2.1) && decide (n.2.2.1 < n.1)) <;> cases (decide (0 ≤ n.2.2.2.1) && decide (n.2.2.2.1 < n.1)) <;> rfl
theorem q12m {n:Net} (h:Small n):qj9 n=some (validN n):=by
  have hL:qrn n.1 n.2.1 n.2.2.1 n.2.2.2.1 0=some (bif n.2.1.any (badT n.1) then .inr false else .inl ()):=by
    have hl:=h.trans
    refine qbu n.2.1 Trans.z (badT n.1) false (by omega) (fun i hi=>?_) ?_
    · have h1:=h.ins _ (qr Trans.z hi)
      have h2:=h.outs _ (qr Trans.z hi)
      unfold badT
      simp (disch:=omega) only [q12s,qdq,q11p,ckB_ix,q7,q6,qa,ckB_mk,ckB_ne,bif_lt,q8,bif_le,qb,bif_eq,qc,bif_ne,qd,q9,q5,q4,bnd_ok,lk_inl,lk_inr,Int.toNat_natCast,decide_true]
      rw [qos _ _ (by omega),qos _ _ (by omega),qg]
      simp only [bnd_ok]
      cases eqS (n.2.1.getD i Trans.z).1 ⟨#[]⟩ <;> cases nameB (n.2.1.getD i Trans.z).1 <;> cases setB n.1 (n.2.1.getD i Trans.z).2.1 <;> cases setB n.1 (n.2.1.getD i Trans.z).2.2.1 <;> rfl
    · simp (disch:=omega) only [qdq,ckB_ix,q7,q6,qa,ckB_mk,ckB_ne,bif_lt,q8,bif_le,qb,bif_eq,qc,bif_ne,qd,q9,q5,q4,bnd_ok,lk_inl,lk_inr,Int.toNat_natCast,decide_true]
  unfold qj9 validN
  rw [hL]
  have e1:decide (1 ≤ n.1)=!decide (n.1 < 1):=by rw [Bool.eq_iff_iff]; simp
  have e2:decide (n.1 ≤ 40)=!decide (40 < n.1):=by rw [Bool.eq_iff_iff]; simp
  have e3:decide (n.2.1.length ≤ 60)=!decide ((60:Int) < (n.2.1.length:Int)):=by rw [Bool.eq_iff_iff]; simp; omega
  have e4:∀ x:Int,decide (0 ≤ x)=!decide (x < 0):=fun x=>by rw [Bool.eq_iff_iff]; simp
  have e5:∀ x:Int,decide (x < n.1)=!decide (n.1 ≤ x):=fun x=>by rw [Bool.eq_iff_iff]; simp
  rw [e1,e2,e3,e4 n.2.2.1,e4 n.2.2.2.1,e5 n.2.2.1,e5 n.2.2.2.1]
  cases decide (n.1 < 1) <;> cases decide (40 < n.1) <;> cases decide ((60:Int) < (n.2.1.length:Int)) <;> cases n.2.1.any (badT n.1) <;> cases decide (n.2.2.1 < 0) <;> cases decide (n.1 ≤ n.2.2.1) <;> cases decide (n.2.2.2.1 < 0) <;> cases decide (n.1 ≤ n.2.2.2.1) <;> rfl
theorem q16c (n:Net):∃ b,qj4 n=some b ∧ (b=false → Small n ∧ (n.2.1.length ≤ 12 ∨ 60 < n.2.1.length) ∧ (n.1 ≤ 10 ∨ 16 < n.1)):=by
  have h1:∀ t:Trans,qet t=some (decide ((50:Int) < (t.2.1.length:Int)) || decide ((50:Int) < (t.2.2.1.length:Int)) || decide ((200:Int) < (t.1.size:Int))):=fun t=>by
    unfold qet
    cases decide ((50:Int) < (t.2.1.length:Int)) <;> cases decide ((50:Int) < (t.2.2.1.length:Int)) <;> rfl
  have hC:n.2.1.length ≤ 100 → qp n.2.1=some (n.2.1.any fun t=>decide ((50:Int) < (t.2.1.length:Int)) || decide ((50:Int) < (t.2.2.1.length:Int)) || decide ((200:Int) < (t.1.size:Int))):=fun hl=>by
    have hL:q5a n.2.1 (n.2.1.length:Int) 0=some (fOut (fun i=>(i:Int)) (fidx (fun t:Trans=>decide ((50:Int) < (t.2.1.length:Int)) || decide ((50:Int) < (t.2.2.1.length:Int)) || decide ((200:Int) < (t.1.size:Int))) n.2.1)):=by
      refine q74 n.2.1 Trans.z (fun t:Trans=>decide ((50:Int) < (t.2.1.length:Int)) || decide ((50:Int) < (t.2.2.1.length:Int)) || decide ((200:Int) < (t.1.size:Int))) (fun i=>(i:Int)) (by omega) (fun i hi=>?_) ?_
      · simp (disch:=omega) only [q1i,h1,ckB_ix,q7,q6,qa,ckB_mk,ckB_ne,bif_lt,q8,bif_le,qb,bif_eq,qc,bif_ne,qd,q9,q5,q4,bnd_ok,lk_inl,lk_inr,Int.toNat_natCast,decide_true]
        rw [qg]
        exact qwj
      · simp (disch:=omega) only [q1i,ckB_ix,q7,q6,qa,ckB_mk,ckB_ne,bif_lt,q8,bif_le,qb,bif_eq,qc,bif_ne,qd,q9,q5,q4,bnd_ok,lk_inl,lk_inr,Int.toNat_natCast,decide_true]
    unfold qp q31
    rw [hL,bnd_ok,qg9,bnd_ok,qiw]
  have hF:n.2.1.length ≤ 100 → (n.2.1.any fun t=>decide ((50:Int) < (t.2.1.length:Int)) || decide ((50:Int) < (t.2.2.1.length:Int)) || decide ((200:Int) < (t.1.size:Int)))=false → Small n:=fun hl ha=>by
    have key:∀ t ∈ n.2.1,t.2.1.length ≤ 50 ∧ t.2.2.1.length ≤ 50:=fun t ht=>by
      have:=List.any_eq_false.1 ha t ht
      simp only [Bool.or_eq_true,decide_eq_true_eq,not_or] at this
      omega
    exact ⟨hl,fun t ht=>(key t ht).1,fun t ht=>(key t ht).2⟩
  unfold qj4
  by_cases c1:(100:Int) < (n.2.1.length:Int)
  · refine ⟨true,?_,fun h=>by cases h⟩
    by_cases c2:(n.2.1.length:Int) ≤ 60
    · omega
    · simp (disch:=omega) only [ckB_ix,q7,q6,qa,ckB_mk,ckB_ne,bif_lt,q8,bif_le,qb,bif_eq,qc,bif_ne,qd,q9,q5,q4,bnd_ok,lk_inl,lk_inr,Int.toNat_natCast,decide_true]
  · have hl:n.2.1.length ≤ 100:=by omega
    by_cases c3:(10:Int) < n.1
    · by_cases c4:n.1 ≤ 16
      · refine ⟨true,?_,fun h=>by cases h⟩
        by_cases c2:(12:Int) < (n.2.1.length:Int)
        · by_cases c5:(n.2.1.length:Int) ≤ 60
          · simp (disch:=omega) only [ckB_ix,q7,q6,qa,ckB_mk,ckB_ne,bif_lt,q8,bif_le,qb,bif_eq,qc,bif_ne,qd,q9,q5,q4,bnd_ok,lk_inl,lk_inr,Int.toNat_natCast,decide_true]
          · simp (disch:=omega) only [ckB_ix,q7,q6,qa,ckB_mk,ckB_ne,bif_lt,q8,bif_le,qb,bif_eq,qc,bif_ne,qd,q9,q5,q4,bnd_ok,lk_inl,lk_inr,Int.toNat_natCast,decide_true]
        · simp (disch:=omega) only [ckB_ix,q7,q6,qa,ckB_mk,ckB_ne,bif_lt,q8,bif_le,qb,bif_eq,qc,bif_ne,qd,q9,q5,q4,bnd_ok,lk_inl,lk_inr,Int.toNat_natCast,decide_true]
      · by_cases c2:(12:Int) < (n.2.1.length:Int)
        · by_cases c5:(n.2.1.length:Int) ≤ 60
          · exact ⟨true,by simp (disch:=omega) only [ckB_ix,q7,q6,qa,ckB_mk,ckB_ne,bif_lt,q8,bif_le,qb,bif_eq,qc,bif_ne,qd,q9,q5,q4,bnd_ok,lk_inl,lk_inr,Int.toNat_natCast,decide_true],fun h=>by cases h⟩
          · exact ⟨_,by simp (disch:=omega) only [hC hl,ckB_ix,q7,q6,qa,ckB_mk,ckB_ne,bif_lt,q8,bif_le,qb,bif_eq,qc,bif_ne,qd,q9,q5,q4,bnd_ok,lk_inl,lk_inr,Int.toNat_natCast,decide_true],fun h=>⟨hF hl h,by omega,by omega⟩⟩
        · exact ⟨_,by simp (disch:=omega) only [hC hl,ckB_ix,q7,q6,qa,ckB_mk,ckB_ne,bif_lt,q8,bif_le,qb,bif_eq,qc,bif_ne,qd,q9,q5,q4,bnd_ok,lk_inl,lk_inr,Int.toNat_natCast,decide_true],fun h=>⟨hF hl h,by omega,by omega⟩⟩
    · by_cases c2:(12:Int) < (n.2.1.length:Int)
      · by_cases c5:(n.2.1.length:Int) ≤ 60
        · exact ⟨true,by simp (disch:=omega) only [ckB_ix,q7,q6,qa,ckB_mk,ckB_ne,bif_lt,q8,bif_le,qb,bif_eq,qc,bif_ne,qd,q9,q5,q4,bnd_ok,lk_inl,lk_inr,Int.toNat_natCast,decide_true],fun h=>by cases h⟩
        · exact ⟨_,by simp (disch:=omega) only [hC hl,ckB_ix,q7,q6,qa,ckB_mk,ckB_ne,bif_lt,q8,bif_le,qb,bif_eq,qc,bif_ne,qd,q9,q5,q4,bnd_ok,lk_inl,lk_inr,Int.toNat_natCast,decide_true],fun h=>⟨hF hl h,by omega,by omega⟩⟩
      · exact ⟨_,by simp (disch:=omega) only [hC hl,ckB_ix,q7,q6,qa,ckB_mk,ckB_ne,bif_lt,q8,bif_le,qb,bif_eq,qc,bif_ne,qd,q9,q5,q4,bnd_ok,lk_inl,lk_inr,Int.toNat_natCast,decide_true],fun h=>⟨hF hl h,by omega,by omega⟩⟩
end Go.Proofs.Ytjhojmninmipcaa
