/-
  Flow: Places and Transitions of the program.
-/
import Derived.Test.YthakmiiaejhlbaaZ5F5
set_option linter.all false
namespace Go.Proofs.Ythakmiiaejhlbaa
open Go.K Go.M
def bigL (l:List Int):Bool:=l.any fun k=>decide (1048576 < k)
def resE (d:Rw):Rw×Int:=bif decide (1000 < d.length) then ([],5) else bif (srt d).any bigL then ([],6) else (srt d,0)
theorem quw (d:Rw):(srt d).Perm d:=List.mergeSort_perm d _
theorem big_eq (l:List Int) (hl:l.length≤1000000):q34 l=some (bigL l):=by
 have hL:qag l (l.length:Int) 0=some (fOut (fun i=>(i:Int)) (fidx (fun k=>decide (1048576 < k)) l)):=by
   refine qg3 l 0 (fun k=>decide (1048576 < k)) (fun i=>(i:Int)) (by omega) (fun i hi=>?_) ?_
   · simp (disch:=omega) only [q2y,qit,ckB_ix,q6,q5,q7,ckB_mk,ckB_ne,bif_lt,qb,bif_le,qc,bif_eq,qa,bif_ne,q8,q9,q4,q0,bnd_ok,lk_inl,lk_inr,Int.toNat_natCast,decide_true]
     rw [qg]
     cases decide (1048576 < l.getD i 0)<;>rfl
   · simp (disch:=omega) only [q2y,ckB_ix,q6,q5,q7,ckB_mk,ckB_ne,bif_lt,qb,bif_le,qc,bif_eq,qa,bif_ne,q8,q9,q4,q0,bnd_ok,lk_inl,lk_inr,Int.toNat_natCast,decide_true]
 unfold q34 q73 bigL
 rw [hL,bnd_ok,qkp,bnd_ok,qko]
theorem q163 (lf d:Rw) (hs:∀ x∈d,x.length≤1000000) (hl:d.length < 20000):qav lf d=some (.inr (resE d)):=by
 have hsh:Sh d:=fun i=>by
   by_cases hi:i < d.length
   · exact hs _ (qs [] hi)
   · rw [List.getD_eq_getElem?_getD,List.getElem?_eq_none (by omega)]
     exact Nat.zero_le _
 have e1:=q16b d hsh hl
 have hp:=quw d
 have hlen:(srt d).length=d.length:=hp.length_eq
 have e2:qof (srt d) (srt d) ((srt d).length:Int) 0=some (bif (srt d).any bigL then .inr ([],6) else .inl ()):=by
   refine qpy (srt d) [] bigL ([],6) (by omega) (fun i hi=>?_) ?_
   · have hb:=big_eq ((srt d).getD i []) (hs _ (hp.mem_iff.1 (qs [] hi)))
     simp (disch:=omega) only [qca,hb,ckB_ix,q6,q5,q7,ckB_mk,ckB_ne,bif_lt,qb,bif_le,qc,bif_eq,qa,bif_ne,q8,q9,q4,q0,bnd_ok,lk_inl,lk_inr,Int.toNat_natCast,decide_true]
     rw [qg]
     cases bigL ((srt d).getD i [])<;>rfl
   · simp (disch:=omega) only [qca,ckB_ix,q6,q5,q7,ckB_mk,ckB_ne,bif_lt,qb,bif_le,qc,bif_eq,qa,bif_ne,q8,q9,q4,q0,bnd_ok,lk_inl,lk_inr,Int.toNat_natCast,decide_true]
 unfold qav qgr resE
 rw [e1,bnd_ok,q7m (decide_eq_true hlen),hlen,← hlen,e2,hlen]
 have e3:decide ((1000:Int) < (d.length:Int))=decide (1000 < d.length):=decide_eq_decide.2 (by omega)
 rw [e3]
 cases decide (1000 < d.length)<;>cases (srt d).any bigL<;>rfl
def rowsM (n m:Nat) (A:Nat→Nat→Int):Rw:=tab n fun p=>tab m fun j=>A p j
theorem qg1 (n m:Nat) (A:Nat→Nat→Int):(rowsM n m A).length=n:=q2d _ _
theorem qys {n m:Nat} {A:Nat→Nat→Int} {i:Nat} (hi:i < n):(rowsM n m A).getD i []=tab m fun j=>A i j:=q4l hi
theorem q159 {n i:Nat}:(List.replicate n (0:Int)).set i 1=unitE n i:=by
 rw [qsz,qo7]
 rfl
theorem q13t (m:Nat):elimsE 0 m []=[]:=by
 induction m with
 | zero => rfl
 | succ m ih =>
   unfold elimsE at ih ⊢
   rw [List.range_succ,List.foldl_append,ih]
   rfl
section
variable {n m:Nat} {A:Nat→Nat→Int} (hA:∀ i j, -1≤A i j∧A i j≤1) (hn:n≤14) (hm:m≤14) (hs:m≤12∨n≤12)
include hn hm in
theorem q16t:qoq (rowsM n m A) (rowsM n m A) ((rowsM n m A).length:Int) (0,[],[])=some (.inl (lfE (startE n m A),mdE (startE n m A))):=by
 refine q2n (fun i:Nat=>((i:Int),lfE (tab i fun p=>(tab m fun j=>A p j,unitE n p)),mdE (tab i fun p=>(tab m fun j=>A p j,unitE n p)))) n (q1o (by omega)) _ (fun i hi=>?_) ?_ _ rfl
 · have hc:=qf7 (tab m fun j=>A i j) (by rw [q2d]; omega)
   rw [ql2,← lf_app,← md_app]
   simp (disch:=omega) only [qc8,qg1,qys hi,hc,lf_len,md_len,q2d,List.length_replicate,q159,ckB_ix,q6,q5,q7,ckB_mk,ckB_ne,bif_lt,qb,bif_le,qc,bif_eq,qa,bif_ne,q8,q9,q4,q0,bnd_ok,lk_inl,lk_inr,Int.toNat_natCast,decide_true]
   rw [qg]
 · simp (disch:=omega) only [qc8,qg1,ckB_ix,q6,q5,q7,ckB_mk,ckB_ne,bif_lt,qb,bif_le,qc,bif_eq,qa,bif_ne,q8,q9,q4,q0,bnd_ok,lk_inl,lk_inr,Int.toNat_natCast,decide_true]
   rfl
include hA hn hm hs in
theorem q176:qou (m:Int) (0,lfE (startE n m A),mdE (startE n m A))=some (.inl (lfE (elimsE n m (startE n m A)),mdE (elimsE n m (startE n m A)))):=by
 refine q2n (fun c:Nat=>((c:Int),lfE (elimsE n c (startE n m A)),mdE (elimsE n c (startE n m A)))) m (q1o (by omega)) _ (fun c hc=>?_) ?_ _ rfl
 · have hG:=qh9 (qk8 n m A) c (by omega)
   have h1:=q16k hA hG hc hn (by omega) (by omega)
   have e:elimsE n (c+1) (startE n m A)=elimE n c (elimsE n c (startE n m A)):=by
     unfold elimsE
     rw [List.range_succ,List.foldl_append]
     rfl
   rw [e]
   simp (disch:=omega) only [qc9,h1,Bool.not_true,ckB_ix,q6,q5,q7,ckB_mk,ckB_ne,bif_lt,qb,bif_le,qc,bif_eq,qa,bif_ne,q8,q9,q4,q0,bnd_ok,lk_inl,lk_inr,Int.toNat_natCast,decide_true]
   rw [qg]
 · simp (disch:=omega) only [qc9,ckB_ix,q6,q5,q7,ckB_mk,ckB_ne,bif_lt,qb,bif_le,qc,bif_eq,qa,bif_ne,q8,q9,q4,q0,bnd_ok,lk_inl,lk_inr,Int.toNat_natCast,decide_true]
theorem qsy {L:List RowE} {x:List Int}:x∈mdE L↔∃ r∈L,r.2=x:=List.mem_map
include hA hn hm hs in
theorem qvg:q8n (rowsM n m A)=some (resE (mdE (elimsE n m (startE n m A)))):=by
 have hG:=qh9 (qk8 n m A) m (Nat.le_refl _)
 have hlen:=qpm hG hn
 have e3:qav (lfE (elimsE n m (startE n m A))) (mdE (elimsE n m (startE n m A)))=_:=q163 _ _ (fun x hx=>by
   obtain ⟨r,hr,rfl⟩:=qsy.1 hx
   have:=(hG.row r hr).len
   omega) (by rw [md_len]; omega)
 have e0:=q16t (A:=A) hn hm
 have e1:=q176 hA hn hm hs
 unfold q8n
 rw [e0,bnd_ok,lk_inl]
 by_cases h0:0 < n
 · have h00:(rowsM n m A).getD 0 []=tab m fun j=>A 0 j:=qys h0
   simp (disch:=omega) only [qg1,h00,q2d,e1,e3,ckB_ix,q6,q5,q7,ckB_mk,ckB_ne,bif_lt,qb,bif_le,qc,bif_eq,qa,bif_ne,q8,q9,q4,q0,bnd_ok,lk_inl,lk_inr,Int.toNat_natCast,decide_true]
 · obtain rfl:n=0:=by omega
   have es:startE 0 m A=[]:=rfl
   rw [es,q13t] at e3 ⊢
   simp (disch:=omega) only [qg1,e3,ckB_ix,q6,q5,q7,ckB_mk,ckB_ne,bif_lt,qb,bif_le,qc,bif_eq,qa,bif_ne,q8,q9,q4,q0,bnd_ok,lk_inl,lk_inr,Int.toNat_natCast,decide_true]
end
def AP (n:Net) (p j:Nat):Int:=incB (n.2.1.getD j Trans.z) (p:Int)
def AT (n:Net) (t p:Nat):Int:=incB (n.2.1.getD t Trans.z) (p:Int)
section
variable {n:Net} (h:Small n) (hN:n.1≤40)
include h in
theorem pl0_eq (p:Nat) (a b:Int) (n1 n2 n3:Int) (M:Rw):qqy (p:Int) a b n.2.1 (n.2.1.length:Int) n1 n.2.1 n2 n3 M (0,[])=some (.inl (tab n.2.1.length fun j=>AP n p j)):=by
 have hl:=h.trans
 refine q2n (fun i:Nat=>((i:Int),tab i fun j=>AP n p j)) n.2.1.length (q1o (by omega)) _ (fun i hi=>?_) ?_ _ rfl
 · have ht:=qs Trans.z hi
   have h1:=h.ins _ ht
   have h2:=h.outs _ ht
   have e:=qn2 (n.2.1.getD i Trans.z) (p:Int) (by omega) (by omega)
   rw [ql2]
   simp (disch:=omega) only [qdf,e,q2d,ckB_ix,q6,q5,q7,ckB_mk,ckB_ne,bif_lt,qb,bif_le,qc,bif_eq,qa,bif_ne,q8,q9,q4,q0,bnd_ok,lk_inl,lk_inr,Int.toNat_natCast,decide_true]
   rw [qg]
   rfl
 · simp (disch:=omega) only [qdf,ckB_ix,q6,q5,q7,ckB_mk,ckB_ne,bif_lt,qb,bif_le,qc,bif_eq,qa,bif_ne,q8,q9,q4,q0,bnd_ok,lk_inl,lk_inr,Int.toNat_natCast,decide_true]
include h in
theorem pl1_eq (N:Nat) (hN:N≤40) (n1 n2 n3:Int):qqk (N:Int) n1 n.2.1 n2 n3 (0,[])=some (.inl (rowsM N n.2.1.length (AP n))):=by
 refine q2n (fun i:Nat=>((i:Int),rowsM i n.2.1.length (AP n))) N (q1o (by omega)) _ (fun i hi=>?_) ?_ _ rfl
 · have e:=pl0_eq h i (N:Int) (i:Int) n1 n2 n3 (rowsM i n.2.1.length (AP n))
   have e2:rowsM (i+1) n.2.1.length (AP n)=rowsM i n.2.1.length (AP n)++[tab n.2.1.length fun j=>AP n i j]:=ql2 _ _
   rw [e2]
   simp (disch:=omega) only [qdg,e,qg1,ckB_ix,q6,q5,q7,ckB_mk,ckB_ne,bif_lt,qb,bif_le,qc,bif_eq,qa,bif_ne,q8,q9,q4,q0,bnd_ok,lk_inl,lk_inr,Int.toNat_natCast,decide_true]
   rw [qg]
 · simp (disch:=omega) only [qdg,ckB_ix,q6,q5,q7,ckB_mk,ckB_ne,bif_lt,qb,bif_le,qc,bif_eq,qa,bif_ne,q8,q9,q4,q0,bnd_ok,lk_inl,lk_inr,Int.toNat_natCast,decide_true]
include h in
theorem tr0_eq (t:Nat) (ht:t < n.2.1.length) (N:Nat) (hN:N≤40) (a b n1 n2 n3:Int) (v:List Trans) (w:List Trans) (M:Rw):qj7 v a b (N:Int) n1 w n2 n3 M (n.2.1.getD t Trans.z).1 (n.2.1.getD t Trans.z).2.1 (n.2.1.getD t Trans.z).2.2.1 (0,[])=some (.inl (tab N fun p=>AT n t p)):=by
 have hm:=qs Trans.z ht
 have h1:=h.ins _ hm
 have h2:=h.outs _ hm
 refine q2n (fun i:Nat=>((i:Int),tab i fun p=>AT n t p)) N (q1o (by omega)) _ (fun i hi=>?_) ?_ _ rfl
 · have e:=qn2 (n.2.1.getD t Trans.z) (i:Int) (by omega) (by omega)
   have e':q3k ((n.2.1.getD t Trans.z).1,(n.2.1.getD t Trans.z).2.1,(n.2.1.getD t Trans.z).2.2.1,()) (i:Int)=some (incB (n.2.1.getD t Trans.z) (i:Int)):=e
   rw [ql2]
   simp (disch:=omega) only [q8u,e',q2d,ckB_ix,q6,q5,q7,ckB_mk,ckB_ne,bif_lt,qb,bif_le,qc,bif_eq,qa,bif_ne,q8,q9,q4,q0,bnd_ok,lk_inl,lk_inr,Int.toNat_natCast,decide_true]
   rw [qg]
   rfl
 · simp (disch:=omega) only [q8u,ckB_ix,q6,q5,q7,ckB_mk,ckB_ne,bif_lt,qb,bif_le,qc,bif_eq,qa,bif_ne,q8,q9,q4,q0,bnd_ok,lk_inl,lk_inr,Int.toNat_natCast,decide_true]
include h in
theorem tr1_eq (N:Nat) (hN:N≤40) (n2 n3:Int) (w:List Trans):qj6 n.2.1 (n.2.1.length:Int) (N:Int) w n2 n3 (0,[])=some (.inl (rowsM n.2.1.length N (AT n))):=by
 have hl:=h.trans
 refine q2n (fun i:Nat=>((i:Int),rowsM i N (AT n))) n.2.1.length (q1o (by omega)) _ (fun i hi=>?_) ?_ _ rfl
 · have e:=tr0_eq h i hi N hN (n.2.1.length:Int) (i:Int) (N:Int) n2 n3 n.2.1 w (rowsM i N (AT n))
   have e2:rowsM (i+1) N (AT n)=rowsM i N (AT n)++[tab N fun p=>AT n i p]:=ql2 _ _
   rw [e2]
   simp (disch:=omega) only [q8v,e,qg1,ckB_ix,q6,q5,q7,ckB_mk,ckB_ne,bif_lt,qb,bif_le,qc,bif_eq,qa,bif_ne,q8,q9,q4,q0,bnd_ok,lk_inl,lk_inr,Int.toNat_natCast,decide_true]
   rw [qg]
 · simp (disch:=omega) only [q8v,ckB_ix,q6,q5,q7,ckB_mk,ckB_ne,bif_lt,qb,bif_le,qc,bif_eq,qa,bif_ne,q8,q9,q4,q0,bnd_ok,lk_inl,lk_inr,Int.toNat_natCast,decide_true]
end
def plE (n:Net):List RowE:=elimsE n.1.toNat n.2.1.length (startE n.1.toNat n.2.1.length (AP n))
def trE (n:Net):List RowE:=elimsE n.2.1.length n.1.toNat (startE n.2.1.length n.1.toNat (AT n))
def largeB (n:Net):Bool:=decide (20 < n.1)||decide (20 < n.2.1.length)
def outP (n:Net):Rw×Int:=bif !validN n then ([],1) else bif largeB n then ([],5) else resE (mdE (plE n))
def outT (n:Net):Rw×Int:=bif !validN n then ([],1) else bif largeB n then ([],5) else resE (mdE (trE n))
def FewN (n:Net):Prop:=(n.1≤12∧n.2.1.length≤14)∨20 < n.1∨20 < n.2.1.length
theorem qzh (n:Net):qbn n=some (largeB n):=by
 unfold qbn largeB
 have e:decide ((20:Int) < (n.2.1.length:Int))=decide (20 < n.2.1.length):=decide_eq_decide.2 (by omega)
 rw [e]
 cases decide (20 < n.1)<;>rfl
theorem qga {n:Net} (hv:validN n=true):1≤n.1∧n.1≤40∧n.2.1.length≤60:=by
 unfold validN at hv
 simp only [Bool.and_eq_true,decide_eq_true_eq] at hv
 omega
theorem qnb {n:Net} (hf:FewN n) (hl:largeB n=false):n.1≤12∧n.2.1.length≤14:=by
 unfold largeB at hl
 simp only [Bool.or_eq_false_iff,decide_eq_false_iff_not] at hl
 unfold FewN at hf
 omega
theorem q13v {n:Net} (h:Small n) (hf:FewN n):qcy n=some (outP n):=by
 unfold qcy outP
 rw [qqe h,qzh]
 cases hv:validN n with
 | false => rfl
 | true =>
   cases hl:largeB n with
   | true => rfl
   | false =>
     obtain ⟨v1,v2,v3⟩:=qga hv
     obtain ⟨f1,f2⟩:=qnb hf hl
     have e:n.1=(n.1.toNat:Int):=by omega
     have e1:qow n.1 n.1 n.2.1 n.2.2.1 n.2.2.2.1 (0,[])=some (.inl (rowsM n.1.toNat n.2.1.length (AP n))):=by
       conv=>lhs; arg 1; rw [e]
       exact pl1_eq h n.1.toNat (by omega) n.1 n.2.2.1 n.2.2.2.1
     have e2:=qvg (n:=n.1.toNat) (m:=n.2.1.length) (A:=AP n) (fun i j=>qwf _ _) (by omega) (by omega) (by omega)
     simp only [bnd_ok,Bool.not_true,cond_false,e1,lk_inl,e2]
     rfl
theorem qwa {n:Net} (h:Small n) (hf:FewN n):qan n=some (outT n):=by
 unfold qan outT
 rw [qqe h,qzh]
 cases hv:validN n with
 | false => rfl
 | true =>
   cases hl:largeB n with
   | true => rfl
   | false =>
     obtain ⟨v1,v2,v3⟩:=qga hv
     obtain ⟨f1,f2⟩:=qnb hf hl
     have e:n.1=(n.1.toNat:Int):=by omega
     have e1:qi5 n.2.1 (n.2.1.length:Int) n.1 n.2.1 n.2.2.1 n.2.2.2.1 (0,[])=some (.inl (rowsM n.2.1.length n.1.toNat (AT n))):=by
       conv=>lhs; arg 3; rw [e]
       exact tr1_eq h n.1.toNat (by omega) n.2.2.1 n.2.2.2.1 n.2.1
     have e2:=qvg (n:=n.2.1.length) (m:=n.1.toNat) (A:=AT n) (fun i j=>qwf _ _) (by omega) (by omega) (by omega)
     simp only [bnd_ok,Bool.not_true,cond_false,e1,lk_inl,e2]
     rfl
end Go.Proofs.Ythakmiiaejhlbaa
