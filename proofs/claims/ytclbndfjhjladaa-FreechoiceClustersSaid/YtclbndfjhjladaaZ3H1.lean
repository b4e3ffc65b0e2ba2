/-
  Freechoice: names, lists of places, nets.
-/
import Derived.Test.YtclbndfjhjladaaZ3Md
import Derived.Test.YtclbndfjhjladaaZ3KE
import Derived.KernelRfl
set_option linter.all false
namespace Go.Proofs.Ytclbndfjhjladaa
open Go.K Go.M
theorem q1fo:qwv=some true:=by kernel_rfl
def eqS (a b:ByteArray):Bool:=ByteArray.toList a == ByteArray.toList b
theorem q1e5 (a b:ByteArray):(ByteArray.toList a == ByteArray.toList b)=eqS a b:=rfl
def letB (c:Int):Bool:=decide (65≤c)&&decide (c≤90)||decide (97≤c)&&decide (c≤122)
def partB (c:Int):Bool:=letB c||decide (48≤c)&&decide (c≤57)||decide (c=95)||decide (c=45)||decide (c=46)
abbrev byt (s:ByteArray) (i:Nat):Int:=((ByteArray.data s).getD i 0).toNat
theorem q1aj (c:Int):qjc c=some (letB c):=by
 unfold qjc letB
 cases decide ((65:Int)≤c)<;>cases decide (c≤(90:Int))<;>cases decide ((97:Int)≤c)<;>cases decide (c≤(122:Int))<;>rfl
theorem qsq (c:Int):qg3 c=some (letB c):=by
 unfold qg3 letB
 cases decide ((65:Int)≤c)<;>cases decide (c≤(90:Int))<;>cases decide ((97:Int)≤c)<;>cases decide (c≤(122:Int))<;>rfl
theorem q1e4 (c:Int):qvx c=some (partB c):=by
 unfold qvx partB
 rw [q1aj,bnd_ok]
 cases letB c<;>cases decide ((48:Int)≤c)<;>cases decide (c≤(57:Int))<;>cases decide (c=(95:Int))<;>cases decide (c=(45:Int))<;>cases decide (c=(46:Int))<;>rfl
def nameB (s:ByteArray):Bool:=decide (1≤s.size)&&decide (s.size≤40)&&letB (byt s 0)&&(List.range s.size).all fun i=>partB (byt s i)
theorem q1gr (s:ByteArray):qpp s=some (nameB s):=by
 unfold qpp nameB
 by_cases h1:(s.size:Int) < 1
 · have:¬ 1≤s.size:=by omega
   simp (disch:=omega) only [ckB_ix,qb,q9,qd,ckB_mk,ckB_ne,bif_lt,qe,bif_le,qc,bif_eq,qf,bif_ne,qh,qg,q8,q5,bnd_ok,lk_inl,lk_inr,Int.toNat_natCast,decide_true]
   rw [decide_eq_false this]; rfl
 · have h1':1≤s.size:=by omega
   rw [decide_eq_true h1']
   by_cases h2:40 < (s.size:Int)
   · have:¬ s.size≤40:=by omega
     simp (disch:=omega) only [ckB_ix,qb,q9,qd,ckB_mk,ckB_ne,bif_lt,qe,bif_le,qc,bif_eq,qf,bif_ne,qh,qg,q8,q5,bnd_ok,lk_inl,lk_inr,Int.toNat_natCast,decide_true]
     rw [decide_eq_false this]; rfl
   · have h2':s.size≤40:=by omega
     rw [decide_eq_true h2']
     have hL:qzt s (s.size:Int) 0=some (bif (List.range s.size).all (fun i=>partB (byt s i)) then .inl () else .inr false):=by
       refine qk3 (fun i:Nat=>(i:Int)) s.size (qc5 (by omega)) _ () false ?_ ?_ ?_
       · intro i hi hp
         simp (disch:=omega) only [qbi,q1e4,hp,Bool.not_true,ckB_ix,qb,q9,qd,ckB_mk,ckB_ne,bif_lt,qe,bif_le,qc,bif_eq,qf,bif_ne,qh,qg,q8,q5,bnd_ok,lk_inl,lk_inr,Int.toNat_natCast,decide_true]
         rw [qy]
       · intro i hi hp
         simp (disch:=omega) only [qbi,q1e4,hp,Bool.not_false,ckB_ix,qb,q9,qd,ckB_mk,ckB_ne,bif_lt,qe,bif_le,qc,bif_eq,qf,bif_ne,qh,qg,q8,q5,bnd_ok,lk_inl,lk_inr,Int.toNat_natCast,decide_true]
       · simp (disch:=omega) only [qbi,ckB_ix,qb,q9,qd,ckB_mk,ckB_ne,bif_lt,qe,bif_le,qc,bif_eq,qf,bif_ne,qh,qg,q8,q5,bnd_ok,lk_inl,lk_inr,Int.toNat_natCast,decide_true]
     simp (disch:=omega) only [q1aj,hL,ckB_ix,qb,q9,qd,ckB_mk,ckB_ne,bif_lt,qe,bif_le,qc,bif_eq,qf,bif_ne,qh,qg,q8,q5,bnd_ok,lk_inl,lk_inr,Int.toNat_natCast,decide_true]
     cases letB (byt s 0) with
     | false => rfl
     | true => cases (List.range s.size).all (fun i=>partB (byt s i))<;>rfl
theorem q1a1 (n:Nat) (p:Nat→Bool):(List.range (n+1)).all p=(p 0&&(List.range n).all fun i=>p (i+1)):=by
 rw [List.range_succ_eq_map,List.all_cons,List.all_map]
 rfl
theorem q1d1 (s:ByteArray):qnq s=some (nameB s):=by
 unfold qnq nameB
 by_cases h1:(s.size:Int) < 1
 · have:¬ 1≤s.size:=by omega
   simp (disch:=omega) only [ckB_ix,qb,q9,qd,ckB_mk,ckB_ne,bif_lt,qe,bif_le,qc,bif_eq,qf,bif_ne,qh,qg,q8,q5,bnd_ok,lk_inl,lk_inr,Int.toNat_natCast,decide_true]
   rw [decide_eq_false this]; rfl
 · have h1':1≤s.size:=by omega
   rw [decide_eq_true h1']
   by_cases h2:40 < (s.size:Int)
   · have:¬ s.size≤40:=by omega
     simp (disch:=omega) only [ckB_ix,qb,q9,qd,ckB_mk,ckB_ne,bif_lt,qe,bif_le,qc,bif_eq,qf,bif_ne,qh,qg,q8,q5,bnd_ok,lk_inl,lk_inr,Int.toNat_natCast,decide_true]
     rw [decide_eq_false this]; rfl
   · have h2':s.size≤40:=by omega
     rw [decide_eq_true h2']
     have hL:qx5 s 1=some (bif (List.range (s.size - 1)).all (fun i=>partB (byt s (i+1))) then .inl () else .inr false):=by
       refine qk3 (fun i:Nat=>((i+1:Nat):Int)) (s.size - 1) (qc5 (by omega)) _ () false ?_ ?_ ?_
       · intro i hi hp
         unfold partB at hp
         simp (disch:=omega) only [q8v,qsq,ckB_ix,qb,q9,qd,ckB_mk,ckB_ne,bif_lt,qe,bif_le,qc,bif_eq,qf,bif_ne,qh,qg,q8,q5,bnd_ok,lk_inl,lk_inr,Int.toNat_natCast,decide_true]
         rw [qy]
         revert hp
         cases letB (byt s (i+1))<;>cases decide ((48:Int)≤byt s (i+1))<;>cases decide (byt s (i+1)≤(57:Int))<;>cases decide (byt s (i+1)=(95:Int))<;>cases decide (byt s (i+1)=(45:Int))<;>cases decide (byt s (i+1)=(46:Int))<;>intro hp<;>first | rfl | cases hp
       · intro i hi hp
         unfold partB at hp
         simp (disch:=omega) only [q8v,qsq,ckB_ix,qb,q9,qd,ckB_mk,ckB_ne,bif_lt,qe,bif_le,qc,bif_eq,qf,bif_ne,qh,qg,q8,q5,bnd_ok,lk_inl,lk_inr,Int.toNat_natCast,decide_true]
         revert hp
         cases letB (byt s (i+1))<;>cases decide ((48:Int)≤byt s (i+1))<;>cases decide (byt s (i+1)≤(57:Int))<;>cases decide (byt s (i+1)=(95:Int))<;>cases decide (byt s (i+1)=(45:Int))<;>cases decide (byt s (i+1)=(46:Int))<;>intro hp<;>first | rfl | cases hp
       · have e:s.size - 1+1=s.size:=by omega
         rw [e]
         simp (disch:=omega) only [q8v,ckB_ix,qb,q9,qd,ckB_mk,ckB_ne,bif_lt,qe,bif_le,qc,bif_eq,qf,bif_ne,qh,qg,q8,q5,bnd_ok,lk_inl,lk_inr,Int.toNat_natCast,decide_true]
     simp (disch:=omega) only [qsq,hL,ckB_ix,qb,q9,qd,ckB_mk,ckB_ne,bif_lt,qe,bif_le,qc,bif_eq,qf,bif_ne,qh,qg,q8,q5,bnd_ok,lk_inl,lk_inr,Int.toNat_natCast,decide_true]
     have e:s.size=s.size - 1+1:=by omega
     have e2:(List.range s.size).all (fun i=>partB (byt s i))=(partB (byt s 0)&&(List.range (s.size - 1)).all fun i=>partB (byt s (i+1))):=by
       conv=>lhs; rw [e]
       exact q1a1 _ _
     rw [e2]
     have e3:letB (byt s 0)=true→partB (byt s 0)=true:=fun h=>by unfold partB; rw [h]; rfl
     cases h:letB (byt s 0) with
     | false => rfl
     | true =>
       rw [e3 h]
       cases (List.range (s.size - 1)).all (fun i=>partB (byt s (i+1)))<;>rfl
def memB (l:List Int) (x:Int):Bool:=l.any fun y=>decide (x=y)
theorem q15i {l:List Int} {x:Int}:memB l x=true↔x∈l:=by
 unfold memB
 rw [List.any_eq_true]
 constructor
 · rintro ⟨y,hy,h⟩
   rw [of_decide_eq_true h]; exact hy
 · intro h
   exact ⟨x,h,decide_eq_true rfl⟩
theorem q149 (l:List Int) (h:l.length≤1000000) (x:Int):qq l x=some (memB l x):=by
 have hL:qiz l x (l.length:Int) 0=some (fOut (fun i=>(i:Int)) (fidx (fun y=>decide (x=y)) l)):=by
   refine ql4 l 0 (fun y=>decide (x=y)) (fun i=>(i:Int)) (by omega) (fun i hi=>?_) ?_
   · simp (disch:=omega) only [q4p,ckB_ix,qb,q9,qd,ckB_mk,ckB_ne,bif_lt,qe,bif_le,qc,bif_eq,qf,bif_ne,qh,qg,q8,q5,bnd_ok,lk_inl,lk_inr,Int.toNat_natCast,decide_true]
     rw [qy]
     cases decide (x=l.getD i 0)<;>rfl
   · simp (disch:=omega) only [q4p,ckB_ix,qb,q9,qd,ckB_mk,ckB_ne,bif_lt,qe,bif_le,qc,bif_eq,qf,bif_ne,qh,qg,q8,q5,bnd_ok,lk_inl,lk_inr,Int.toNat_natCast,decide_true]
 unfold qq qd8
 rw [hL,bnd_ok,qyf,bnd_ok,qxl]
 rfl
def badQ (N:Int) (l:List Int) (i:Nat):Bool:=decide (l.getD i 0 < 0)||decide (N≤l.getD i 0)||decide (0 < i)&&decide (l.getD i 0≤l.getD (i - 1) 0)
def setB (N:Int) (l:List Int):Bool:=(List.range l.length).all fun i=>!badQ N l i
theorem q136 (N:Int) (ts:List Trans) (a b:Int) (l:List Int) (h:l.length≤1000000):qy4 l l (l.length:Int) N ts a b 0=some (bif (List.range l.length).all (fun i=>!badQ N l i) then .inl () else .inr false):=by
 have hst:∀ i:Nat,i < l.length→q5q l l (l.length:Int) N ts a b (R:=LR Int Unit Bool) (i:Int) (fun a'=>some (.next a')) (fun e=>some (.done e)) (fun r=>some (.ret r))=some (bif badQ N l i then .ret false else .next ((i+1:Nat):Int)):=fun i hi=>by
   unfold badQ
   by_cases h0:0 < i
   · have e:(i:Int) - 1=((i - 1:Nat):Int):=by omega
     have h0':(0:Int) < (i:Int):=by omega
     rw [decide_eq_true h0]
     simp (disch:=omega) only [q5q,e,ckB_ix,qb,q9,qd,ckB_mk,ckB_ne,bif_lt,qe,bif_le,qc,bif_eq,qf,bif_ne,qh,qg,q8,q5,bnd_ok,lk_inl,lk_inr,Int.toNat_natCast,decide_true]
     rw [qy]
     cases decide (l.getD i 0 < 0)<;>cases decide (N≤l.getD i 0)<;>cases decide (l.getD i 0≤l.getD (i - 1) 0)<;>rfl
   · have h0':¬ (0:Int) < (i:Int):=by omega
     rw [decide_eq_false h0]
     simp (disch:=omega) only [q5q,ckB_ix,qb,q9,qd,ckB_mk,ckB_ne,bif_lt,qe,bif_le,qc,bif_eq,qf,bif_ne,qh,qg,q8,q5,bnd_ok,lk_inl,lk_inr,Int.toNat_natCast,decide_true]
     rw [qy]
     cases decide (l.getD i 0 < 0)<;>cases decide (N≤l.getD i 0)<;>rfl
 refine qk3 (fun i:Nat=>(i:Int)) l.length (qc5 (by omega)) _ () false (fun i hi hp=>?_) (fun i hi hp=>?_) ?_
 · have hb:badQ N l i=false:=by simpa using hp
   exact (hst i hi).trans (by rw [hb]; rfl)
 · have hb:badQ N l i=true:=by simpa using hp
   exact (hst i hi).trans (by rw [hb]; rfl)
 · simp (disch:=omega) only [q5q,ckB_ix,qb,q9,qd,ckB_mk,ckB_ne,bif_lt,qe,bif_le,qc,bif_eq,qf,bif_ne,qh,qg,q8,q5,bnd_ok,lk_inl,lk_inr,Int.toNat_natCast,decide_true]
theorem q12v (N:Int) (ts:List Trans) (a b:Int) (l:List Int) (h:l.length≤1000000):qyb N l 0=some (bif (List.range l.length).all (fun i=>!badQ N l i) then .inl () else .inr false):=by
 have hst:∀ i:Nat,i < l.length→q5x N l (R:=LR Int Unit Bool) (i:Int) (fun a'=>some (.next a')) (fun e=>some (.done e)) (fun r=>some (.ret r))=some (bif badQ N l i then .ret false else .next ((i+1:Nat):Int)):=fun i hi=>by
   unfold badQ
   by_cases h0:0 < i
   · have e:(i:Int) - 1=((i - 1:Nat):Int):=by omega
     have h0':(0:Int) < (i:Int):=by omega
     rw [decide_eq_true h0]
     simp (disch:=omega) only [q5x,e,ckB_ix,qb,q9,qd,ckB_mk,ckB_ne,bif_lt,qe,bif_le,qc,bif_eq,qf,bif_ne,qh,qg,q8,q5,bnd_ok,lk_inl,lk_inr,Int.toNat_natCast,decide_true]
     rw [qy]
     cases decide (l.getD i 0 < 0)<;>cases decide (N≤l.getD i 0)<;>cases decide (l.getD i 0≤l.getD (i - 1) 0)<;>rfl
   · have h0':¬ (0:Int) < (i:Int):=by omega
     rw [decide_eq_false h0]
     simp (disch:=omega) only [q5x,ckB_ix,qb,q9,qd,ckB_mk,ckB_ne,bif_lt,qe,bif_le,qc,bif_eq,qf,bif_ne,qh,qg,q8,q5,bnd_ok,lk_inl,lk_inr,Int.toNat_natCast,decide_true]
     rw [qy]
     cases decide (l.getD i 0 < 0)<;>cases decide (N≤l.getD i 0)<;>rfl
 refine qk3 (fun i:Nat=>(i:Int)) l.length (qc5 (by omega)) _ () false (fun i hi hp=>?_) (fun i hi hp=>?_) ?_
 · have hb:badQ N l i=false:=by simpa using hp
   exact (hst i hi).trans (by rw [hb]; rfl)
 · have hb:badQ N l i=true:=by simpa using hp
   exact (hst i hi).trans (by rw [hb]; rfl)
 · simp (disch:=omega) only [q5x,ckB_ix,qb,q9,qd,ckB_mk,ckB_ne,bif_lt,qe,bif_le,qc,bif_eq,qf,bif_ne,qh,qg,q8,q5,bnd_ok,lk_inl,lk_inr,Int.toNat_natCast,decide_true]
theorem bif_id {b:Bool}:(lk (bif b then (.inl ():Unit⊕Bool) else .inr false) (fun _=>some true) fun r=>some r)=some b:=by cases b<;>rfl
theorem qeh (n:Net) (l:List Int) (h:l.length≤1000000):q43 n l=some (setB n.1 l):=by
 unfold q43 setB
 rw [q136 n.1 n.2.1 n.2.2.1 n.2.2.2.1 l h,bnd_ok,bif_id]
theorem qvc (N:Int) (l:List Int) (h:l.length≤1000000):q7z N l=some (setB N l):=by
 unfold q7z setB
 rw [q12v N [] 0 0 l h,bnd_ok,bif_id]
structure Small (n:Net):Prop where
 trans:n.2.1.length≤100
 ins:∀ t∈n.2.1,t.2.1.length≤60
 outs:∀ t∈n.2.1,t.2.2.1.length≤60
def badT (N:Int) (t:Trans):Bool:=!eqS t.1 ⟨#[]⟩&&!nameB t.1||!setB N t.2.1||!setB N t.2.2.1
def validN (n:Net):Bool:=decide (1≤n.1)&&decide (n.1≤40)&&decide (n.2.1.length≤60)&&!n.2.1.any (badT n.1)&&(decide (0≤n.2.2.1)&&decide (n.2.2.1 < n.1))&&(decide (0≤n.2.2.2.1)&&decide (n.2.2.2.1 < n.1))
theorem q1cj (N x:Int):setB N [x]=(decide (0≤x)&&decide (x < N)):=by
 unfold setB badQ
 rw [Bool.eq_iff_iff]
 simp
theorem q1h6 {n:Net} (h:Small n):q2i n=some (validN n):=by
 have hL:q10c n.2.1 (n.2.1.length:Int) n.1 n.2.1 n.2.2.1 n.2.2.2.1 0=some (bif n.2.1.any (badT n.1) then .inr false else .inl ()):=by
   have hl:=h.trans
   refine q189 n.2.1 Trans.z (badT n.1) false (by omega) (fun i hi=>?_) ?_
   · have h1:=h.ins _ (qz Trans.z hi)
     have h2:=h.outs _ (qz Trans.z hi)
     unfold badT
     simp (disch:=omega) only [q1e5,qh3,q1gr,ckB_ix,qb,q9,qd,ckB_mk,ckB_ne,bif_lt,qe,bif_le,qc,bif_eq,qf,bif_ne,qh,qg,q8,q5,bnd_ok,lk_inl,lk_inr,Int.toNat_natCast,decide_true]
     rw [qeh _ _ (by omega),qeh _ _ (by omega),qy]
     simp only [bnd_ok]
     cases eqS (n.2.1.getD i Trans.z).1 ⟨#[]⟩<;>cases nameB (n.2.1.getD i Trans.z).1<;>cases setB n.1 (n.2.1.getD i Trans.z).2.1<;>cases setB n.1 (n.2.1.getD i Trans.z).2.2.1<;>rfl
   · simp (disch:=omega) only [qh3,ckB_ix,qb,q9,qd,ckB_mk,ckB_ne,bif_lt,qe,bif_le,qc,bif_eq,qf,bif_ne,qh,qg,q8,q5,bnd_ok,lk_inl,lk_inr,Int.toNat_natCast,decide_true]
 unfold q2i validN
 rw [hL,qeh _ _ (by simp),qeh _ _ (by simp),q1cj,q1cj]
 have e1:decide (1≤n.1)=!decide (n.1 < 1):=by rw [Bool.eq_iff_iff]; simp
 have e2:decide (n.1≤40)=!decide (40 < n.1):=by rw [Bool.eq_iff_iff]; simp
 have e3:decide (n.2.1.length≤60)=!decide ((60:Int) < (n.2.1.length:Int)):=by rw [Bool.eq_iff_iff]; simp; omega
 rw [e1,e2,e3]
 cases decide (n.1 < 1)<;>cases decide (40 < n.1)<;>cases decide ((60:Int) < (n.2.1.length:Int))<;>cases n.2.1.any (badT n.1)<;>cases (decide (0≤n.2.2.1)&&decide (n.2.2.1 < n.1))<;>cases (decide (0≤n.2.2.2.1)&&decide (n.2.2.2.1 < n.1))<;>rfl
theorem q1dj {n:Net} (h:Small n):qps n=some (validN n):=by
 have hL:qzw n.1 n.2.1 n.2.2.1 n.2.2.2.1 0=some (bif n.2.1.any (badT n.1) then .inr false else .inl ()):=by
   have hl:=h.trans
   refine q189 n.2.1 Trans.z (badT n.1) false (by omega) (fun i hi=>?_) ?_
   · have h1:=h.ins _ (qz Trans.z hi)
     have h2:=h.outs _ (qz Trans.z hi)
     unfold badT
     simp (disch:=omega) only [q1e5,qh4,q1d1,ckB_ix,qb,q9,qd,ckB_mk,ckB_ne,bif_lt,qe,bif_le,qc,bif_eq,qf,bif_ne,qh,qg,q8,q5,bnd_ok,lk_inl,lk_inr,Int.toNat_natCast,decide_true]
     rw [qvc _ _ (by omega),qvc _ _ (by omega),qy]
     simp only [bnd_ok]
     cases eqS (n.2.1.getD i Trans.z).1 ⟨#[]⟩<;>cases nameB (n.2.1.getD i Trans.z).1<;>cases setB n.1 (n.2.1.getD i Trans.z).2.1<;>cases setB n.1 (n.2.1.getD i Trans.z).2.2.1<;>rfl
   · simp (disch:=omega) only [qh4,ckB_ix,qb,q9,qd,ckB_mk,ckB_ne,bif_lt,qe,bif_le,qc,bif_eq,qf,bif_ne,qh,qg,q8,q5,bnd_ok,lk_inl,lk_inr,Int.toNat_natCast,decide_true]
 unfold qps validN
 rw [hL]
 have e1:decide (1≤n.1)=!decide (n.1 < 1):=by rw [Bool.eq_iff_iff]; simp
 have e2:decide (n.1≤40)=!decide (40 < n.1):=by rw [Bool.eq_iff_iff]; simp
 have e3:decide (n.2.1.length≤60)=!decide ((60:Int) < (n.2.1.length:Int)):=by rw [Bool.eq_iff_iff]; simp; omega
 have e4:∀ x:Int,decide (0≤x)=!decide (x < 0):=fun x=>by rw [Bool.eq_iff_iff]; simp
 have e5:∀ x:Int,decide (x < n.1)=!decide (n.1≤x):=fun x=>by rw [Bool.eq_iff_iff]; simp
 rw [e1,e2,e3,e4 n.2.2.1,e4 n.2.2.2.1,e5 n.2.2.1,e5 n.2.2.2.1]
 cases decide (n.1 < 1)<;>cases decide (40 < n.1)<;>cases decide ((60:Int) < (n.2.1.length:Int))<;>cases n.2.1.any (badT n.1)<;>cases decide (n.2.2.1 < 0)<;>cases decide (n.1≤n.2.2.1)<;>cases decide (n.2.2.2.1 < 0)<;>cases decide (n.1≤n.2.2.2.1)<;>rfl
theorem q15u {N:Int} {l:List Int}:setB N l=true↔(∀ x∈l,0≤x∧x < N)∧l.Pairwise (· < ·):=by
 unfold setB
 rw [List.all_eq_true]
 constructor
 · intro h
   have hq:∀ i,i < l.length→(0≤l.getD i 0∧l.getD i 0 < N)∧(0 < i→l.getD (i - 1) 0 < l.getD i 0):=fun i hi=>by
     have:=h i (List.mem_range.2 hi)
     unfold badQ at this
     simp only [Bool.not_eq_true',Bool.or_eq_false_iff,Bool.and_eq_false_iff,decide_eq_false_iff_not] at this
     refine ⟨by omega,fun h0=>?_⟩
     rcases this.2 with h1 | h1
     · exact absurd h0 h1
     · omega
   refine ⟨fun x hx=>?_,List.pairwise_iff_getElem.2 fun i j hi hj hij=>?_⟩
   · obtain ⟨i,hi,rfl⟩:=q1hj 0 hx
     exact (hq i hi).1
   · have key:∀ d,∀ j,j=i+1+d→j < l.length→l.getD i 0 < l.getD j 0:=by
       intro d
       induction d with
       | zero => intro j hj hl; subst hj; exact (hq (i+1) hl).2 (by omega)
       | succ d ih =>
         intro j hj hl
         have h1:=ih (i+1+d) rfl (by omega)
         have h2:=(hq j hl).2 (by omega)
         rw [show j - 1=i+1+d by omega] at h2
         omega
     have:=key (j - i - 1) j (by omega) hj
     rwa [q8o l i 0 hi,q8o l j 0 hj] at this
 · rintro ⟨h1,h2⟩ i hi
   have hi:=List.mem_range.1 hi
   have hb:=h1 _ (qz 0 hi)
   unfold badQ
   simp only [Bool.not_eq_true',Bool.or_eq_false_iff,Bool.and_eq_false_iff,decide_eq_false_iff_not]
   refine ⟨by omega,?_⟩
   by_cases h0:0 < i
   · right
     have:=List.pairwise_iff_getElem.1 h2 (i - 1) i (by omega) hi (by omega)
     rw [q8o l i 0 hi,q8o l (i - 1) 0 (by omega)]
     omega
   · exact .inl h0
theorem q1hk (n:Net):∃ b,qpr n=some b∧(b=false→Small n∧(n.2.1.length≤12∨60≤n.2.1.length)∧(n.1≤12∨40 < n.1)):=by
 have h1:∀ t:Trans,qjf t=some (decide ((60:Int) < (t.2.1.length:Int))||decide ((60:Int) < (t.2.2.1.length:Int))||decide ((100:Int) < (t.1.size:Int))):=fun t=>by
   unfold qjf
   cases decide ((60:Int) < (t.2.1.length:Int))<;>cases decide ((60:Int) < (t.2.2.1.length:Int))<;>rfl
 have hC:n.2.1.length≤80→qn n.2.1=some (n.2.1.any fun t=>decide ((60:Int) < (t.2.1.length:Int))||decide ((60:Int) < (t.2.2.1.length:Int))||decide ((100:Int) < (t.1.size:Int))):=fun hl=>by
   have hL:q3z n.2.1 (n.2.1.length:Int) 0=some (fOut (fun i=>(i:Int)) (fidx (fun t:Trans=>decide ((60:Int) < (t.2.1.length:Int))||decide ((60:Int) < (t.2.2.1.length:Int))||decide ((100:Int) < (t.1.size:Int))) n.2.1)):=by
     refine ql4 n.2.1 Trans.z (fun t:Trans=>decide ((60:Int) < (t.2.1.length:Int))||decide ((60:Int) < (t.2.2.1.length:Int))||decide ((100:Int) < (t.1.size:Int))) (fun i=>(i:Int)) (by omega) (fun i hi=>?_) ?_
     · simp (disch:=omega) only [q18,h1,ckB_ix,qb,q9,qd,ckB_mk,ckB_ne,bif_lt,qe,bif_le,qc,bif_eq,qf,bif_ne,qh,qg,q8,q5,bnd_ok,lk_inl,lk_inr,Int.toNat_natCast,decide_true]
       rw [qy]
       exact qz6
     · simp (disch:=omega) only [q18,ckB_ix,qb,q9,qd,ckB_mk,ckB_ne,bif_lt,qe,bif_le,qc,bif_eq,qf,bif_ne,qh,qg,q8,q5,bnd_ok,lk_inl,lk_inr,Int.toNat_natCast,decide_true]
   unfold qn q1u
   rw [hL,bnd_ok,qyf,bnd_ok,qxl]
 have hF:n.2.1.length≤80→(n.2.1.any fun t=>decide ((60:Int) < (t.2.1.length:Int))||decide ((60:Int) < (t.2.2.1.length:Int))||decide ((100:Int) < (t.1.size:Int)))=false→Small n:=fun hl ha=>by
   have key:∀ t∈n.2.1,t.2.1.length≤60∧t.2.2.1.length≤60:=fun t ht=>by
     have:=List.any_eq_false.1 ha t ht
     simp only [Bool.or_eq_true,decide_eq_true_eq,not_or] at this
     omega
   exact ⟨by omega,fun t ht=>(key t ht).1,fun t ht=>(key t ht).2⟩
 unfold qpr
 by_cases c1:(80:Int) < (n.2.1.length:Int)
 · refine ⟨true,?_,fun h=>by cases h⟩
   by_cases c2:(12:Int) < n.1<;>by_cases c3:n.1≤40<;>(first | omega | simp (disch:=omega) only [ckB_ix,qb,q9,qd,ckB_mk,ckB_ne,bif_lt,qe,bif_le,qc,bif_eq,qf,bif_ne,qh,qg,q8,q5,bnd_ok,lk_inl,lk_inr,Int.toNat_natCast,decide_true])
 · have hl:n.2.1.length≤80:=by omega
   by_cases c3:(12:Int) < n.1
   · by_cases c4:n.1≤40
     · exact ⟨true,by simp (disch:=omega) only [ckB_ix,qb,q9,qd,ckB_mk,ckB_ne,bif_lt,qe,bif_le,qc,bif_eq,qf,bif_ne,qh,qg,q8,q5,bnd_ok,lk_inl,lk_inr,Int.toNat_natCast,decide_true],fun h=>by cases h⟩
     · by_cases c2:(12:Int) < (n.2.1.length:Int)
       · by_cases c5:(n.2.1.length:Int) < 60
         · exact ⟨true,by simp (disch:=omega) only [ckB_ix,qb,q9,qd,ckB_mk,ckB_ne,bif_lt,qe,bif_le,qc,bif_eq,qf,bif_ne,qh,qg,q8,q5,bnd_ok,lk_inl,lk_inr,Int.toNat_natCast,decide_true],fun h=>by cases h⟩
         · exact ⟨_,by simp (disch:=omega) only [hC hl,ckB_ix,qb,q9,qd,ckB_mk,ckB_ne,bif_lt,qe,bif_le,qc,bif_eq,qf,bif_ne,qh,qg,q8,q5,bnd_ok,lk_inl,lk_inr,Int.toNat_natCast,decide_true],fun h=>⟨hF hl h,by omega,by omega⟩⟩
       · exact ⟨_,by simp (disch:=omega) only [hC hl,ckB_ix,qb,q9,qd,ckB_mk,ckB_ne,bif_lt,qe,bif_le,qc,bif_eq,qf,bif_ne,qh,qg,q8,q5,bnd_ok,lk_inl,lk_inr,Int.toNat_natCast,decide_true],fun h=>⟨hF hl h,by omega,by omega⟩⟩
   · by_cases c2:(12:Int) < (n.2.1.length:Int)
     · by_cases c5:(n.2.1.length:Int) < 60
       · exact ⟨true,by simp (disch:=omega) only [ckB_ix,qb,q9,qd,ckB_mk,ckB_ne,bif_lt,qe,bif_le,qc,bif_eq,qf,bif_ne,qh,qg,q8,q5,bnd_ok,lk_inl,lk_inr,Int.toNat_natCast,decide_true],fun h=>by cases h⟩
       · exact ⟨_,by simp (disch:=omega) only [hC hl,ckB_ix,qb,q9,qd,ckB_mk,ckB_ne,bif_lt,qe,bif_le,qc,bif_eq,qf,bif_ne,qh,qg,q8,q5,bnd_ok,lk_inl,lk_inr,Int.toNat_natCast,decide_true],fun h=>⟨hF hl h,by omega,by omega⟩⟩
     · exact ⟨_,by simp (disch:=omega) only [hC hl,ckB_ix,qb,q9,qd,ckB_mk,ckB_ne,bif_lt,qe,bif_le,qc,bif_eq,qf,bif_ne,qh,qg,q8,q5,bnd_ok,lk_inl,lk_inr,Int.toNat_natCast,decide_true],fun h=>⟨hF hl h,by omega,by omega⟩⟩
theorem q158 (a b:List Int) (ha:a.length≤1000000):q2m a b=some (decide (a=b)):=by
 unfold q2m
 by_cases hl:a.length=b.length
 · rw [qy7 (by simp [hl])]
   have hloop:qi3 a b (a.length:Int) 0=some (bif (List.range a.length).all (fun i=>decide (a.getD i 0=b.getD i 0)) then .inl () else .inr false):=by
     refine qk3 (fun i:Nat=>(i:Int)) a.length (qc5 (by omega)) _ () false ?_ ?_ ?_
     · intro i hi hp
       have hp':a.getD i 0=b.getD i 0:=of_decide_eq_true hp
       simp (disch:=omega) only [q2p,ckB_ix,qb,q9,qd,ckB_mk,ckB_ne,bif_lt,qe,bif_le,qc,bif_eq,qf,bif_ne,qh,qg,q8,q5,bnd_ok,lk_inl,lk_inr,Int.toNat_natCast,decide_true]
       rw [qy]
     · intro i hi hp
       have hp':a.getD i 0≠b.getD i 0:=of_decide_eq_false hp
       simp (disch:=omega) only [q2p,ckB_ix,qb,q9,qd,ckB_mk,ckB_ne,bif_lt,qe,bif_le,qc,bif_eq,qf,bif_ne,qh,qg,q8,q5,bnd_ok,lk_inl,lk_inr,Int.toNat_natCast,decide_true]
     · simp (disch:=omega) only [q2p,ckB_ix,qb,q9,qd,ckB_mk,ckB_ne,bif_lt,qe,bif_le,qc,bif_eq,qf,bif_ne,qh,qg,q8,q5,bnd_ok,lk_inl,lk_inr,Int.toNat_natCast,decide_true]
   rw [hloop,bnd_ok]
   have hall:(List.range a.length).all (fun i=>decide (a.getD i 0=b.getD i 0))=decide (a=b):=by
     rw [Bool.eq_iff_iff,List.all_eq_true,decide_eq_true_iff]
     constructor
     · intro h
       refine List.ext_getElem hl fun i h1 h2=>?_
       have:=of_decide_eq_true (h i (List.mem_range.2 h1))
       rw [q8o a i 0 h1,q8o b i 0 h2] at this
       exact this
     · rintro rfl i _
       simp
   rw [hall]
   cases decide (a=b)<;>rfl
 · have:¬ a=b:=fun h=>hl (by rw [h])
   rw [qxp (by simp; omega),decide_eq_false this]
def comB (a b:List Int):Bool:=a.any (memB b)
def frB (a b:List Int):Bool:=!comB a b||decide (a=b)
def freeN (ts:List Trans):Bool:=(List.range ts.length).all fun i=>(List.range i).all fun k=>frB (ts.getD i Trans.z).2.1 (ts.getD k Trans.z).2.1
theorem q1ea (a:List Int) (t:Trans) (ha:a.length≤1000000) (ht:t.2.1.length≤1000000):q21 a t=some (comB a t.2.1):=by
 have h1:∀ x,q81 x t=some (memB t.2.1 x):=fun x=>by
   unfold q81
   simp (disch:=omega) only [ckB_ix,qb,q9,qd,ckB_mk,ckB_ne,bif_lt,qe,bif_le,qc,bif_eq,qf,bif_ne,qh,qg,q8,q5,bnd_ok,lk_inl,lk_inr,Int.toNat_natCast,decide_true]
   rw [q149 _ ht]
   rfl
 have hL:qac a t (a.length:Int) 0=some (fOut (fun i=>(i:Int)) (fidx (memB t.2.1) a)):=by
   refine ql4 a 0 (memB t.2.1) (fun i=>(i:Int)) (by omega) (fun i hi=>?_) ?_
   · simp (disch:=omega) only [q22,h1,ckB_ix,qb,q9,qd,ckB_mk,ckB_ne,bif_lt,qe,bif_le,qc,bif_eq,qf,bif_ne,qh,qg,q8,q5,bnd_ok,lk_inl,lk_inr,Int.toNat_natCast,decide_true]
     rw [qy]
     exact qz6
   · simp (disch:=omega) only [q22,ckB_ix,qb,q9,qd,ckB_mk,ckB_ne,bif_lt,qe,bif_le,qc,bif_eq,qf,bif_ne,qh,qg,q8,q5,bnd_ok,lk_inl,lk_inr,Int.toNat_natCast,decide_true]
 unfold q21 q5g
 rw [hL,bnd_ok,qyf,bnd_ok,qxl]
 rfl
theorem q19n {b:Bool}:(lk (bif b then (.inl ():Unit⊕Bool) else .inr false) (fun _=>some true) fun r=>some r)=some b:=by cases b<;>rfl
section
variable {ts:List Trans} (hl:ts.length≤100) (hi':∀ t∈ts,t.2.1.length≤60)
include hl hi'
theorem q1cb {i:Nat} (hi:i < ts.length) (a b c d e:Int) (x1:ByteArray) (x3:List Int) :
   qp3 ts a b (ts.take i) ((ts.take i).length:Int) c ts d e x1 (ts.getD i Trans.z).2.1 x3 0=some (bif (List.range i).all (fun k=>frB (ts.getD i Trans.z).2.1 (ts.getD k Trans.z).2.1) then .inl () else .inr false):=by
 have hli:=hi' _ (qz Trans.z hi)
 have hlen:(ts.take i).length=i:=by rw [List.length_take]; omega
 have hget:∀ k,k < i→(ts.take i).getD k Trans.z=ts.getD k Trans.z:=fun k hk=>by
   rw [List.getD_eq_getElem?_getD,List.getD_eq_getElem?_getD,List.getElem?_take,if_pos hk]
 rw [hlen]
 refine qk3 (fun k:Nat=>(k:Int)) i (qc5 (by omega)) (fun k=>frB (ts.getD i Trans.z).2.1 (ts.getD k Trans.z).2.1) () false ?_ ?_ ?_
 · intro k hk hp
   have hlk:=hi' _ (qz Trans.z (show k < ts.length by omega))
   simp (disch:=omega) only [q44,hlen,hget k hk,ckB_ix,qb,q9,qd,ckB_mk,ckB_ne,bif_lt,qe,bif_le,qc,bif_eq,qf,bif_ne,qh,qg,q8,q5,bnd_ok,lk_inl,lk_inr,Int.toNat_natCast,decide_true]
   rw [q1ea _ _ (by omega) (by omega),q158 _ _ (by omega),qy]
   unfold frB at hp
   cases h1:comB (ts.getD i Trans.z).2.1 (ts.getD k Trans.z).2.1 with
   | false => rfl
   | true => rw [h1] at hp; simp only [Bool.not_true,Bool.false_or] at hp; simp only [bnd_ok,hp]; rfl
 · intro k hk hp
   have hlk:=hi' _ (qz Trans.z (show k < ts.length by omega))
   simp (disch:=omega) only [q44,hlen,hget k hk,ckB_ix,qb,q9,qd,ckB_mk,ckB_ne,bif_lt,qe,bif_le,qc,bif_eq,qf,bif_ne,qh,qg,q8,q5,bnd_ok,lk_inl,lk_inr,Int.toNat_natCast,decide_true]
   rw [q1ea _ _ (by omega) (by omega),q158 _ _ (by omega)]
   unfold frB at hp
   simp only [Bool.or_eq_false_iff,Bool.not_eq_false'] at hp
   simp only [bnd_ok,hp.1,hp.2]; rfl
 · simp (disch:=omega) only [q44,ckB_ix,qb,q9,qd,ckB_mk,ckB_ne,bif_lt,qe,bif_le,qc,bif_eq,qf,bif_ne,qh,qg,q8,q5,bnd_ok,lk_inl,lk_inr,Int.toNat_natCast,decide_true]
theorem q1g2 (a b c:Int):q2t (a,ts,b,c,())=some (freeN ts):=by
 have hL:qov ts (ts.length:Int) a ts b c 0=some (bif (List.range ts.length).all (fun i=>(List.range i).all fun k=>frB (ts.getD i Trans.z).2.1 (ts.getD k Trans.z).2.1) then .inl () else .inr false):=by
   refine qk3 (fun k:Nat=>(k:Int)) ts.length (qc5 (by omega)) (fun i=>(List.range i).all fun k=>frB (ts.getD i Trans.z).2.1 (ts.getD k Trans.z).2.1) () false ?_ ?_ ?_
   · intro i hi hp
     simp (disch:=omega) only [q47,ckB_ix,qb,q9,qd,ckB_mk,ckB_ne,bif_lt,qe,bif_le,qc,bif_eq,qf,bif_ne,qh,qg,q8,q5,bnd_ok,lk_inl,lk_inr,Int.toNat_natCast,decide_true]
     rw [q1cb hl hi' hi,hp,qy]
     rfl
   · intro i hi hp
     simp (disch:=omega) only [q47,ckB_ix,qb,q9,qd,ckB_mk,ckB_ne,bif_lt,qe,bif_le,qc,bif_eq,qf,bif_ne,qh,qg,q8,q5,bnd_ok,lk_inl,lk_inr,Int.toNat_natCast,decide_true]
     rw [q1cb hl hi' hi,hp]
     rfl
   · simp (disch:=omega) only [q47,ckB_ix,qb,q9,qd,ckB_mk,ckB_ne,bif_lt,qe,bif_le,qc,bif_eq,qf,bif_ne,qh,qg,q8,q5,bnd_ok,lk_inl,lk_inr,Int.toNat_natCast,decide_true]
 unfold q2t freeN
 simp only
 rw [hL,bnd_ok,q19n]
end
theorem q1i1 {n:Net} (h:Small n):q2t n=some (freeN n.2.1):=q1g2 (ts:=n.2.1) h.trans h.ins n.1 n.2.2.1 n.2.2.2.1
end Go.Proofs.Ytclbndfjhjladaa
