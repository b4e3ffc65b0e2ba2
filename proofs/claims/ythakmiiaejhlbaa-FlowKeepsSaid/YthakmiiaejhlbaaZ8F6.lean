/-
  Flow: Places and Transitions of the program.
-/
import Derived.Test.YthakmiiaejhlbaaZ8F5
set_option linter.all false
namespace Go.Proofs.Ythakmiiaejhlbaa
open Go.K Go.M
def bigL (l:List Int):Bool:=l.any fun k=>decide (1048576 < k)
def resE (d:Rw):Rw×Int:=bif decide (1000 < d.length) then ([],5) else bif (srt d).any bigL then ([],6) else (srt d,0)
theorem qtp (d:Rw):(srt d).Perm d:=List.mergeSort_perm d _
theorem big_eq (l:List Int) (hl:l.length≤1000000):q34 l=some (bigL l):=by
 have hL:qa1 l (l.length:Int) 0=some (fOut (fun i=>(i:Int)) (fidx (fun k=>decide (1048576 < k)) l)):=by
   refine qcd l 0 (fun k=>decide (1048576 < k)) (fun i=>(i:Int)) (by omega) (fun i hi=>?_) ?_
   · simp (disch:=omega) only [q35,qhk,ckB_ix,q6,q5,qc,ckB_mk,ckB_ne,bif_lt,q8,bif_le,qa,bif_eq,q9,bif_ne,q7,qb,q4,q0,bnd_ok,lk_inl,lk_inr,Int.toNat_natCast,decide_true]
     rw [qg]
     cases decide (1048576 < l.getD i 0)<;>rfl
   · simp (disch:=omega) only [q35,ckB_ix,q6,q5,qc,ckB_mk,ckB_ne,bif_lt,q8,bif_le,qa,bif_eq,q9,bif_ne,q7,qb,q4,q0,bnd_ok,lk_inl,lk_inr,Int.toNat_natCast,decide_true]
 unfold q34 q6v bigL
 rw [hL,bnd_ok,qi2,bnd_ok,qhf]
theorem q15q (lf d:Rw) (hs:∀ x∈d,x.length≤1000000) (hl:d.length < 20000):qaw lf d=some (.inr (resE d)):=by
 have hsh:Sh d:=fun i=>by
   by_cases hi:i < d.length
   · exact hs _ (qq [] hi)
   · rw [List.getD_eq_getElem?_getD,List.getElem?_eq_none (by omega)]
     exact Nat.zero_le _
 have e1:=q15v d hsh hl
 have hp:=qtp d
 have hlen:(srt d).length=d.length:=hp.length_eq
 have e2:qo4 (srt d) (srt d) ((srt d).length:Int) 0=some (bif (srt d).any bigL then .inr ([],6) else .inl ()):=by
   refine qpc (srt d) [] bigL ([],6) (by omega) (fun i hi=>?_) ?_
   · have hb:=big_eq ((srt d).getD i []) (hs _ (hp.mem_iff.1 (qq [] hi)))
     simp (disch:=omega) only [qc2,hb,ckB_ix,q6,q5,qc,ckB_mk,ckB_ne,bif_lt,q8,bif_le,qa,bif_eq,q9,bif_ne,q7,qb,q4,q0,bnd_ok,lk_inl,lk_inr,Int.toNat_natCast,decide_true]
     rw [qg]
     cases bigL ((srt d).getD i [])<;>rfl
   · simp (disch:=omega) only [qc2,ckB_ix,q6,q5,qc,ckB_mk,ckB_ne,bif_lt,q8,bif_le,qa,bif_eq,q9,bif_ne,q7,qb,q4,q0,bnd_ok,lk_inl,lk_inr,Int.toNat_natCast,decide_true]
 unfold qaw qgw resE
 rw [e1,bnd_ok,q7g (decide_eq_true hlen),hlen,← hlen,e2,hlen]
 have e3:decide ((1000:Int) < (d.length:Int))=decide (1000 < d.length):=decide_eq_decide.2 (by omega)
 rw [e3]
 cases decide (1000 < d.length)<;>cases (srt d).any bigL<;>rfl
def rowsM (n m:Nat) (A:Nat→Nat→Int):Rw:=tab n fun p=>tab m fun j=>A p j
theorem qin (n m:Nat) (A:Nat→Nat→Int):(rowsM n m A).length=n:=q2f _ _
theorem q103 {n m:Nat} {A:Nat→Nat→Int} {i:Nat} (hi:i < n):(rowsM n m A).getD i []=tab m fun j=>A i j:=q6f hi
theorem q14y {n i:Nat}:(List.replicate n (0:Int)).set i 1=unitE n i:=by
 rw [qwe,qog]
 rfl
theorem q13w (m:Nat):elimsE 0 m []=[]:=by
 induction m with
 | zero => rfl
 | succ m ih =>
   unfold elimsE at ih ⊢
   rw [List.range_succ,List.foldl_append,ih]
   rfl
section
variable {n m:Nat} {A:Nat→Nat→Int} (hA:∀ i j, -1≤A i j∧A i j≤1) (hn:n≤14) (hm:m≤14) (hs:m≤12∨n≤12)
include hn hm in
theorem q16e:qny (rowsM n m A) (rowsM n m A) ((rowsM n m A).length:Int) (0,[],[])=some (.inl (lfE (startE n m A),mdE (startE n m A))):=by
 refine q1r (fun i:Nat=>((i:Int),lfE (tab i fun p=>(tab m fun j=>A p j,unitE n p)),mdE (tab i fun p=>(tab m fun j=>A p j,unitE n p)))) n (q13 (by omega)) _ (fun i hi=>?_) ?_ _ rfl
 · have hc:=qbc (tab m fun j=>A i j) (by rw [q2f]; omega)
   rw [qkf,← lf_app,← md_app]
   simp (disch:=omega) only [qc0,qin,q103 hi,hc,lf_len,md_len,q2f,List.length_replicate,q14y,ckB_ix,q6,q5,qc,ckB_mk,ckB_ne,bif_lt,q8,bif_le,qa,bif_eq,q9,bif_ne,q7,qb,q4,q0,bnd_ok,lk_inl,lk_inr,Int.toNat_natCast,decide_true]
   rw [qg]
 · simp (disch:=omega) only [qc0,qin,ckB_ix,q6,q5,qc,ckB_mk,ckB_ne,bif_lt,q8,bif_le,qa,bif_eq,q9,bif_ne,q7,qb,q4,q0,bnd_ok,lk_inl,lk_inr,Int.toNat_natCast,decide_true]
   rfl
include hA hn hm hs in
theorem q16v:qnw (m:Int) (0,lfE (startE n m A),mdE (startE n m A))=some (.inl (lfE (elimsE n m (startE n m A)),mdE (elimsE n m (startE n m A)))):=by
 refine q1r (fun c:Nat=>((c:Int),lfE (elimsE n c (startE n m A)),mdE (elimsE n c (startE n m A)))) m (q13 (by omega)) _ (fun c hc=>?_) ?_ _ rfl
 · have hG:=qjz (qpx n m A) c (by omega)
   have h1:=q16a hA hG hc hn (by omega) (by omega)
   have e:elimsE n (c+1) (startE n m A)=elimE n c (elimsE n c (startE n m A)):=by
     unfold elimsE
     rw [List.range_succ,List.foldl_append]
     rfl
   rw [e]
   simp (disch:=omega) only [qbx,h1,Bool.not_true,ckB_ix,q6,q5,qc,ckB_mk,ckB_ne,bif_lt,q8,bif_le,qa,bif_eq,q9,bif_ne,q7,qb,q4,q0,bnd_ok,lk_inl,lk_inr,Int.toNat_natCast,decide_true]
   rw [qg]
 · simp (disch:=omega) only [qbx,ckB_ix,q6,q5,qc,ckB_mk,ckB_ne,bif_lt,q8,bif_le,qa,bif_eq,q9,bif_ne,q7,qb,q4,q0,bnd_ok,lk_inl,lk_inr,Int.toNat_natCast,decide_true]
theorem qsa {L:List RowE} {x:List Int}:x∈mdE L↔∃ r∈L,r.2=x:=List.mem_map
include hA hn hm hs in
theorem q130:qb0 (rowsM n m A)=some (resE (mdE (elimsE n m (startE n m A)))):=by
 have hG:=qjz (qpx n m A) m (Nat.le_refl _)
 have hlen:=qpy hG hn
 have e3:qaw (lfE (elimsE n m (startE n m A))) (mdE (elimsE n m (startE n m A)))=_:=q15q _ _ (fun x hx=>by
   obtain ⟨r,hr,rfl⟩:=qsa.1 hx
   have:=(hG.row r hr).len
   omega) (by rw [md_len]; omega)
 have e0:=q16e (A:=A) hn hm
 have e1:=q16v hA hn hm hs
 unfold qb0
 rw [e0,bnd_ok,lk_inl]
 by_cases h0:0 < n
 · have h00:(rowsM n m A).getD 0 []=tab m fun j=>A 0 j:=q103 h0
   simp (disch:=omega) only [qin,h00,q2f,e1,e3,ckB_ix,q6,q5,qc,ckB_mk,ckB_ne,bif_lt,q8,bif_le,qa,bif_eq,q9,bif_ne,q7,qb,q4,q0,bnd_ok,lk_inl,lk_inr,Int.toNat_natCast,decide_true]
 · obtain rfl:n=0:=by omega
   have es:startE 0 m A=[]:=rfl
   rw [es,q13w] at e3 ⊢
   simp (disch:=omega) only [qin,e3,ckB_ix,q6,q5,qc,ckB_mk,ckB_ne,bif_lt,q8,bif_le,qa,bif_eq,q9,bif_ne,q7,qb,q4,q0,bnd_ok,lk_inl,lk_inr,Int.toNat_natCast,decide_true]
end
def AP (n:Net) (p j:Nat):Int:=incB (n.2.1.getD j Trans.z) (p:Int)
def AT (n:Net) (t p:Nat):Int:=incB (n.2.1.getD t Trans.z) (p:Int)
section
variable {n:Net} (h:Small n) (hN:n.1≤40)
include h in
theorem pl0_eq (p:Nat) (a b:Int) (n1 n2 n3:Int) (M:Rw):qqm (p:Int) a b n.2.1 (n.2.1.length:Int) n1 n.2.1 n2 n3 M (0,[])=some (.inl (tab n.2.1.length fun j=>AP n p j)):=by
 have hl:=h.trans
 refine q1r (fun i:Nat=>((i:Int),tab i fun j=>AP n p j)) n.2.1.length (q13 (by omega)) _ (fun i hi=>?_) ?_ _ rfl
 · have ht:=qq Trans.z hi
   have h1:=h.ins _ ht
   have h2:=h.outs _ ht
   have e:=qx9 (n.2.1.getD i Trans.z) (p:Int) (by omega) (by omega)
   rw [qkf]
   simp (disch:=omega) only [qd9,e,q2f,ckB_ix,q6,q5,qc,ckB_mk,ckB_ne,bif_lt,q8,bif_le,qa,bif_eq,q9,bif_ne,q7,qb,q4,q0,bnd_ok,lk_inl,lk_inr,Int.toNat_natCast,decide_true]
   rw [qg]
   rfl
 · simp (disch:=omega) only [qd9,ckB_ix,q6,q5,qc,ckB_mk,ckB_ne,bif_lt,q8,bif_le,qa,bif_eq,q9,bif_ne,q7,qb,q4,q0,bnd_ok,lk_inl,lk_inr,Int.toNat_natCast,decide_true]
include h in
theorem pl1_eq (N:Nat) (hN:N≤40) (n1 n2 n3:Int):qqn (N:Int) n1 n.2.1 n2 n3 (0,[])=some (.inl (rowsM N n.2.1.length (AP n))):=by
 refine q1r (fun i:Nat=>((i:Int),rowsM i n.2.1.length (AP n))) N (q13 (by omega)) _ (fun i hi=>?_) ?_ _ rfl
 · have e:=pl0_eq h i (N:Int) (i:Int) n1 n2 n3 (rowsM i n.2.1.length (AP n))
   have e2:rowsM (i+1) n.2.1.length (AP n)=rowsM i n.2.1.length (AP n)++[tab n.2.1.length fun j=>AP n i j]:=qkf _ _
   rw [e2]
   simp (disch:=omega) only [qd3,e,qin,ckB_ix,q6,q5,qc,ckB_mk,ckB_ne,bif_lt,q8,bif_le,qa,bif_eq,q9,bif_ne,q7,qb,q4,q0,bnd_ok,lk_inl,lk_inr,Int.toNat_natCast,decide_true]
   rw [qg]
 · simp (disch:=omega) only [qd3,ckB_ix,q6,q5,qc,ckB_mk,ckB_ne,bif_lt,q8,bif_le,qa,bif_eq,q9,bif_ne,q7,qb,q4,q0,bnd_ok,lk_inl,lk_inr,Int.toNat_natCast,decide_true]
include h in
include h in
end
def plE (n:Net):List RowE:=elimsE n.1.toNat n.2.1.length (startE n.1.toNat n.2.1.length (AP n))
def largeB (n:Net):Bool:=decide (20 < n.1)||decide (20 < n.2.1.length)
def outP (n:Net):Rw×Int:=bif !validN n then ([],1) else bif largeB n then ([],5) else resE (mdE (plE n))
def FewN (n:Net):Prop:=(n.1≤12∧n.2.1.length≤14)∨20 < n.1∨20 < n.2.1.length
theorem q150 (n:Net):qd5 n=some (largeB n):=by
 unfold qd5 largeB
 have e:decide ((20:Int) < (n.2.1.length:Int))=decide (20 < n.2.1.length):=decide_eq_decide.2 (by omega)
 rw [e]
 cases decide (20 < n.1)<;>rfl
theorem qf8 {n:Net} (hv:validN n=true):1≤n.1∧n.1≤40∧n.2.1.length≤60:=by
 unfold validN at hv
 simp only [Bool.and_eq_true,decide_eq_true_eq] at hv
 omega
theorem qx1 {n:Net} (hf:FewN n) (hl:largeB n=false):n.1≤12∧n.2.1.length≤14:=by
 unfold largeB at hl
 simp only [Bool.or_eq_false_iff,decide_eq_false_iff_not] at hl
 unfold FewN at hf
 omega
theorem qrd {n:Net} (h:Small n) (hf:FewN n):qar n=some (outP n):=by
 unfold qar outP
 rw [qtn h,q150]
 cases hv:validN n with
 | false => rfl
 | true =>
   cases hl:largeB n with
   | true => rfl
   | false =>
     obtain ⟨v1,v2,v3⟩:=qf8 hv
     obtain ⟨f1,f2⟩:=qx1 hf hl
     have e:n.1=(n.1.toNat:Int):=by omega
     have e1:qnq n.1 n.1 n.2.1 n.2.2.1 n.2.2.2.1 (0,[])=some (.inl (rowsM n.1.toNat n.2.1.length (AP n))):=by
       conv=>lhs; arg 1; rw [e]
       exact pl1_eq h n.1.toNat (by omega) n.1 n.2.2.1 n.2.2.2.1
     have e2:=q130 (n:=n.1.toNat) (m:=n.2.1.length) (A:=AP n) (fun i j=>q124 _ _) (by omega) (by omega) (by omega)
     simp only [bnd_ok,Bool.not_true,cond_false,e1,lk_inl,e2]
     rfl
end Go.Proofs.Ythakmiiaejhlbaa
