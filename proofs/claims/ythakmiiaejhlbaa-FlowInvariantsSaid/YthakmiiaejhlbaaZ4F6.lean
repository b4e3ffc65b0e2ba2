/-
  Flow: Places and Transitions of the program.
-/
import Derived.Test.YthakmiiaejhlbaaZ4F5
set_option linter.all false
namespace Go.Proofs.Ythakmiiaejhlbaa
open Go.K Go.M
def bigL (l:List Int):Bool:=l.any fun k=>decide (1048576 < k)
def resE (d:Rw):Rw×Int:=bif decide (1000 < d.length) then ([],5) else bif (srt d).any bigL then ([],6) else (srt d,0)
theorem qwc (d:Rw):(srt d).Perm d:=List.mergeSort_perm d _
theorem big_eq (l:List Int) (hl:l.length≤1000000):q2w l=some (bigL l):=by
 have hL:q9i l (l.length:Int) 0=some (fOut (fun i=>(i:Int)) (fidx (fun k=>decide (1048576 < k)) l)):=by
   refine qt1 l 0 (fun k=>decide (1048576 < k)) (fun i=>(i:Int)) (by omega) (fun i hi=>?_) ?_
   · simp (disch:=omega) only [q2x,qhr,ckB_ix,q7,q6,qa,ckB_mk,ckB_ne,bif_lt,q8,bif_le,q9,bif_eq,qc,bif_ne,qb,qd,q5,q4,bnd_ok,lk_inl,lk_inr,Int.toNat_natCast,decide_true]
     rw [qg]
     cases decide (1048576 < l.getD i 0)<;>rfl
   · simp (disch:=omega) only [q2x,ckB_ix,q7,q6,qa,ckB_mk,ckB_ne,bif_lt,q8,bif_le,q9,bif_eq,qc,bif_ne,qb,qd,q5,q4,bnd_ok,lk_inl,lk_inr,Int.toNat_natCast,decide_true]
 unfold q2w q6b bigL
 rw [hL,bnd_ok,qzk,bnd_ok,qz5]
theorem q19g (lf d:Rw) (hs:∀ x∈d,x.length≤1000000) (hl:d.length < 20000):qa4 lf d=some (.inr (resE d)):=by
 have hsh:Sh d:=fun i=>by
   by_cases hi:i < d.length
   · exact hs _ (qr [] hi)
   · rw [List.getD_eq_getElem?_getD,List.getElem?_eq_none (by omega)]
     exact Nat.zero_le _
 have e1:=q18k d hsh hl
 have hp:=qwc d
 have hlen:(srt d).length=d.length:=hp.length_eq
 have e2:qpi (srt d) (srt d) ((srt d).length:Int) 0=some (bif (srt d).any bigL then .inr ([],6) else .inl ()):=by
   refine qav (srt d) [] bigL ([],6) (by omega) (fun i hi=>?_) ?_
   · have hb:=big_eq ((srt d).getD i []) (hs _ (hp.mem_iff.1 (qr [] hi)))
     simp (disch:=omega) only [qbl,hb,ckB_ix,q7,q6,qa,ckB_mk,ckB_ne,bif_lt,q8,bif_le,q9,bif_eq,qc,bif_ne,qb,qd,q5,q4,bnd_ok,lk_inl,lk_inr,Int.toNat_natCast,decide_true]
     rw [qg]
     cases bigL ((srt d).getD i [])<;>rfl
   · simp (disch:=omega) only [qbl,ckB_ix,q7,q6,qa,ckB_mk,ckB_ne,bif_lt,q8,bif_le,q9,bif_eq,qc,bif_ne,qb,qd,q5,q4,bnd_ok,lk_inl,lk_inr,Int.toNat_natCast,decide_true]
 unfold qa4 qgn resE
 rw [e1,bnd_ok,q6o (decide_eq_true hlen),hlen,← hlen,e2,hlen]
 have e3:decide ((1000:Int) < (d.length:Int))=decide (1000 < d.length):=decide_eq_decide.2 (by omega)
 rw [e3]
 cases decide (1000 < d.length)<;>cases (srt d).any bigL<;>rfl
def rowsM (n m:Nat) (A:Nat→Nat→Int):Rw:=tab n fun p=>tab m fun j=>A p j
theorem qfb (n m:Nat) (A:Nat→Nat→Int):(rowsM n m A).length=n:=q32 _ _
theorem q112 {n m:Nat} {A:Nat→Nat→Int} {i:Nat} (hi:i < n):(rowsM n m A).getD i []=tab m fun j=>A i j:=qhj hi
theorem q12f {n i:Nat}:(List.replicate n (0:Int)).set i 1=unitE n i:=by
 rw [q14q,qz1]
 rfl
theorem q16y (m:Nat):elimsE 0 m []=[]:=by
 induction m with
 | zero => rfl
 | succ m ih =>
   unfold elimsE at ih ⊢
   rw [List.range_succ,List.foldl_append,ih]
   rfl
section
variable {n m:Nat} {A:Nat→Nat→Int} (hA:∀ i j, -1≤A i j∧A i j≤1) (hn:n≤14) (hm:m≤14) (hs:m≤12∨n≤12)
include hn hm in
theorem q18j:qpz (rowsM n m A) (rowsM n m A) ((rowsM n m A).length:Int) (0,[],[])=some (.inl (lfE (startE n m A),mdE (startE n m A))):=by
 refine q15 (fun i:Nat=>((i:Int),lfE (tab i fun p=>(tab m fun j=>A p j,unitE n p)),mdE (tab i fun p=>(tab m fun j=>A p j,unitE n p)))) n (qt (by omega)) _ (fun i hi=>?_) ?_ _ rfl
 · have hc:=qep (tab m fun j=>A i j) (by rw [q32]; omega)
   rw [q82,← lf_app,← md_app]
   simp (disch:=omega) only [qbd,qfb,q112 hi,hc,lf_len,md_len,q32,List.length_replicate,q12f,ckB_ix,q7,q6,qa,ckB_mk,ckB_ne,bif_lt,q8,bif_le,q9,bif_eq,qc,bif_ne,qb,qd,q5,q4,bnd_ok,lk_inl,lk_inr,Int.toNat_natCast,decide_true]
   rw [qg]
 · simp (disch:=omega) only [qbd,qfb,ckB_ix,q7,q6,qa,ckB_mk,ckB_ne,bif_lt,q8,bif_le,q9,bif_eq,qc,bif_ne,qb,qd,q5,q4,bnd_ok,lk_inl,lk_inr,Int.toNat_natCast,decide_true]
   rfl
include hA hn hm hs in
theorem q195:qq1 (m:Int) (0,lfE (startE n m A),mdE (startE n m A))=some (.inl (lfE (elimsE n m (startE n m A)),mdE (elimsE n m (startE n m A)))):=by
 refine q15 (fun c:Nat=>((c:Int),lfE (elimsE n c (startE n m A)),mdE (elimsE n c (startE n m A)))) m (qt (by omega)) _ (fun c hc=>?_) ?_ _ rfl
 · have hG:=qd5 (qgq n m A) c (by omega)
   have h1:=q19h hA hG hc hn (by omega) (by omega)
   have e:elimsE n (c+1) (startE n m A)=elimE n c (elimsE n c (startE n m A)):=by
     unfold elimsE
     rw [List.range_succ,List.foldl_append]
     rfl
   rw [e]
   simp (disch:=omega) only [qbg,h1,Bool.not_true,ckB_ix,q7,q6,qa,ckB_mk,ckB_ne,bif_lt,q8,bif_le,q9,bif_eq,qc,bif_ne,qb,qd,q5,q4,bnd_ok,lk_inl,lk_inr,Int.toNat_natCast,decide_true]
   rw [qg]
 · simp (disch:=omega) only [qbg,ckB_ix,q7,q6,qa,ckB_mk,ckB_ne,bif_lt,q8,bif_le,q9,bif_eq,qc,bif_ne,qb,qd,q5,q4,bnd_ok,lk_inl,lk_inr,Int.toNat_natCast,decide_true]
theorem qug {L:List RowE} {x:List Int}:x∈mdE L↔∃ r∈L,r.2=x:=List.mem_map
include hA hn hm hs in
theorem qxd:q83 (rowsM n m A)=some (resE (mdE (elimsE n m (startE n m A)))):=by
 have hG:=qd5 (qgq n m A) m (Nat.le_refl _)
 have hlen:=qam hG hn
 have e3:qa4 (lfE (elimsE n m (startE n m A))) (mdE (elimsE n m (startE n m A)))=_:=q19g _ _ (fun x hx=>by
   obtain ⟨r,hr,rfl⟩:=qug.1 hx
   have:=(hG.row r hr).len
   omega) (by rw [md_len]; omega)
 have e0:=q18j (A:=A) hn hm
 have e1:=q195 hA hn hm hs
 unfold q83
 rw [e0,bnd_ok,lk_inl]
 by_cases h0:0 < n
 · have h00:(rowsM n m A).getD 0 []=tab m fun j=>A 0 j:=q112 h0
   simp (disch:=omega) only [qfb,h00,q32,e1,e3,ckB_ix,q7,q6,qa,ckB_mk,ckB_ne,bif_lt,q8,bif_le,q9,bif_eq,qc,bif_ne,qb,qd,q5,q4,bnd_ok,lk_inl,lk_inr,Int.toNat_natCast,decide_true]
 · obtain rfl:n=0:=by omega
   have es:startE 0 m A=[]:=rfl
   rw [es,q16y] at e3 ⊢
   simp (disch:=omega) only [qfb,e3,ckB_ix,q7,q6,qa,ckB_mk,ckB_ne,bif_lt,q8,bif_le,q9,bif_eq,qc,bif_ne,qb,qd,q5,q4,bnd_ok,lk_inl,lk_inr,Int.toNat_natCast,decide_true]
end
def AP (n:Net) (p j:Nat):Int:=incB (n.2.1.getD j Trans.z) (p:Int)
def AT (n:Net) (t p:Nat):Int:=incB (n.2.1.getD t Trans.z) (p:Int)
section
variable {n:Net} (h:Small n) (hN:n.1≤40)
include h in
theorem pl0_eq (p:Nat) (a b:Int) (n1 n2 n3:Int) (M:Rw):qrs (p:Int) a b n.2.1 (n.2.1.length:Int) n1 n.2.1 n2 n3 M (0,[])=some (.inl (tab n.2.1.length fun j=>AP n p j)):=by
 have hl:=h.trans
 refine q15 (fun i:Nat=>((i:Int),tab i fun j=>AP n p j)) n.2.1.length (qt (by omega)) _ (fun i hi=>?_) ?_ _ rfl
 · have ht:=qr Trans.z hi
   have h1:=h.ins _ ht
   have h2:=h.outs _ ht
   have e:=qzw (n.2.1.getD i Trans.z) (p:Int) (by omega) (by omega)
   rw [q82]
   simp (disch:=omega) only [qcu,e,q32,ckB_ix,q7,q6,qa,ckB_mk,ckB_ne,bif_lt,q8,bif_le,q9,bif_eq,qc,bif_ne,qb,qd,q5,q4,bnd_ok,lk_inl,lk_inr,Int.toNat_natCast,decide_true]
   rw [qg]
   rfl
 · simp (disch:=omega) only [qcu,ckB_ix,q7,q6,qa,ckB_mk,ckB_ne,bif_lt,q8,bif_le,q9,bif_eq,qc,bif_ne,qb,qd,q5,q4,bnd_ok,lk_inl,lk_inr,Int.toNat_natCast,decide_true]
include h in
theorem pl1_eq (N:Nat) (hN:N≤40) (n1 n2 n3:Int):qry (N:Int) n1 n.2.1 n2 n3 (0,[])=some (.inl (rowsM N n.2.1.length (AP n))):=by
 refine q15 (fun i:Nat=>((i:Int),rowsM i n.2.1.length (AP n))) N (qt (by omega)) _ (fun i hi=>?_) ?_ _ rfl
 · have e:=pl0_eq h i (N:Int) (i:Int) n1 n2 n3 (rowsM i n.2.1.length (AP n))
   have e2:rowsM (i+1) n.2.1.length (AP n)=rowsM i n.2.1.length (AP n)++[tab n.2.1.length fun j=>AP n i j]:=q82 _ _
   rw [e2]
   simp (disch:=omega) only [qct,e,qfb,ckB_ix,q7,q6,qa,ckB_mk,ckB_ne,bif_lt,q8,bif_le,q9,bif_eq,qc,bif_ne,qb,qd,q5,q4,bnd_ok,lk_inl,lk_inr,Int.toNat_natCast,decide_true]
   rw [qg]
 · simp (disch:=omega) only [qct,ckB_ix,q7,q6,qa,ckB_mk,ckB_ne,bif_lt,q8,bif_le,q9,bif_eq,qc,bif_ne,qb,qd,q5,q4,bnd_ok,lk_inl,lk_inr,Int.toNat_natCast,decide_true]
include h in
theorem tr0_eq (t:Nat) (ht:t < n.2.1.length) (N:Nat) (hN:N≤40) (a b n1 n2 n3:Int) (v:List Trans) (w:List Trans) (M:Rw):qj6 v a b (N:Int) n1 w n2 n3 M (n.2.1.getD t Trans.z).1 (n.2.1.getD t Trans.z).2.1 (n.2.1.getD t Trans.z).2.2.1 (0,[])=some (.inl (tab N fun p=>AT n t p)):=by
 have hm:=qr Trans.z ht
 have h1:=h.ins _ hm
 have h2:=h.outs _ hm
 refine q15 (fun i:Nat=>((i:Int),tab i fun p=>AT n t p)) N (qt (by omega)) _ (fun i hi=>?_) ?_ _ rfl
 · have e:=qzw (n.2.1.getD t Trans.z) (i:Int) (by omega) (by omega)
   have e':q79 ((n.2.1.getD t Trans.z).1,(n.2.1.getD t Trans.z).2.1,(n.2.1.getD t Trans.z).2.2.1,()) (i:Int)=some (incB (n.2.1.getD t Trans.z) (i:Int)):=e
   rw [q82]
   simp (disch:=omega) only [q87,e',q32,ckB_ix,q7,q6,qa,ckB_mk,ckB_ne,bif_lt,q8,bif_le,q9,bif_eq,qc,bif_ne,qb,qd,q5,q4,bnd_ok,lk_inl,lk_inr,Int.toNat_natCast,decide_true]
   rw [qg]
   rfl
 · simp (disch:=omega) only [q87,ckB_ix,q7,q6,qa,ckB_mk,ckB_ne,bif_lt,q8,bif_le,q9,bif_eq,qc,bif_ne,qb,qd,q5,q4,bnd_ok,lk_inl,lk_inr,Int.toNat_natCast,decide_true]
include h in
theorem tr1_eq (N:Nat) (hN:N≤40) (n2 n3:Int) (w:List Trans):qiw n.2.1 (n.2.1.length:Int) (N:Int) w n2 n3 (0,[])=some (.inl (rowsM n.2.1.length N (AT n))):=by
 have hl:=h.trans
 refine q15 (fun i:Nat=>((i:Int),rowsM i N (AT n))) n.2.1.length (qt (by omega)) _ (fun i hi=>?_) ?_ _ rfl
 · have e:=tr0_eq h i hi N hN (n.2.1.length:Int) (i:Int) (N:Int) n2 n3 n.2.1 w (rowsM i N (AT n))
   have e2:rowsM (i+1) N (AT n)=rowsM i N (AT n)++[tab N fun p=>AT n i p]:=q82 _ _
   rw [e2]
   simp (disch:=omega) only [q85,e,qfb,ckB_ix,q7,q6,qa,ckB_mk,ckB_ne,bif_lt,q8,bif_le,q9,bif_eq,qc,bif_ne,qb,qd,q5,q4,bnd_ok,lk_inl,lk_inr,Int.toNat_natCast,decide_true]
   rw [qg]
 · simp (disch:=omega) only [q85,ckB_ix,q7,q6,qa,ckB_mk,ckB_ne,bif_lt,q8,bif_le,q9,bif_eq,qc,bif_ne,qb,qd,q5,q4,bnd_ok,lk_inl,lk_inr,Int.toNat_natCast,decide_true]
end
def plE (n:Net):List RowE:=elimsE n.1.toNat n.2.1.length (startE n.1.toNat n.2.1.length (AP n))
def trE (n:Net):List RowE:=elimsE n.2.1.length n.1.toNat (startE n.2.1.length n.1.toNat (AT n))
def largeB (n:Net):Bool:=decide (20 < n.1)||decide (20 < n.2.1.length)
def outP (n:Net):Rw×Int:=bif !validN n then ([],1) else bif largeB n then ([],5) else resE (mdE (plE n))
def outT (n:Net):Rw×Int:=bif !validN n then ([],1) else bif largeB n then ([],5) else resE (mdE (trE n))
def FewN (n:Net):Prop:=(n.1≤12∧n.2.1.length≤14)∨20 < n.1∨20 < n.2.1.length
theorem q117 (n:Net):qao n=some (largeB n):=by
 unfold qao largeB
 have e:decide ((20:Int) < (n.2.1.length:Int))=decide (20 < n.2.1.length):=decide_eq_decide.2 (by omega)
 rw [e]
 cases decide (20 < n.1)<;>rfl
theorem qfc {n:Net} (hv:validN n=true):1≤n.1∧n.1≤40∧n.2.1.length≤60:=by
 unfold validN at hv
 simp only [Bool.and_eq_true,decide_eq_true_eq] at hv
 omega
theorem qiu {n:Net} (hf:FewN n) (hl:largeB n=false):n.1≤12∧n.2.1.length≤14:=by
 unfold largeB at hl
 simp only [Bool.or_eq_false_iff,decide_eq_false_iff_not] at hl
 unfold FewN at hf
 omega
theorem q102 {n:Net} (h:Small n) (hf:FewN n):qa2 n=some (outP n):=by
 unfold qa2 outP
 rw [q12t h,q117]
 cases hv:validN n with
 | false => rfl
 | true =>
   cases hl:largeB n with
   | true => rfl
   | false =>
     obtain ⟨v1,v2,v3⟩:=qfc hv
     obtain ⟨f1,f2⟩:=qiu hf hl
     have e:n.1=(n.1.toNat:Int):=by omega
     have e1:qp4 n.1 n.1 n.2.1 n.2.2.1 n.2.2.2.1 (0,[])=some (.inl (rowsM n.1.toNat n.2.1.length (AP n))):=by
       conv=>lhs; arg 1; rw [e]
       exact pl1_eq h n.1.toNat (by omega) n.1 n.2.2.1 n.2.2.2.1
     have e2:=qxd (n:=n.1.toNat) (m:=n.2.1.length) (A:=AP n) (fun i j=>qup _ _) (by omega) (by omega) (by omega)
     simp only [bnd_ok,Bool.not_true,cond_false,e1,lk_inl,e2]
     rfl
theorem qyw {n:Net} (h:Small n) (hf:FewN n):q9r n=some (outT n):=by
 unfold q9r outT
 rw [q12t h,q117]
 cases hv:validN n with
 | false => rfl
 | true =>
   cases hl:largeB n with
   | true => rfl
   | false =>
     obtain ⟨v1,v2,v3⟩:=qfc hv
     obtain ⟨f1,f2⟩:=qiu hf hl
     have e:n.1=(n.1.toNat:Int):=by omega
     have e1:qha n.2.1 (n.2.1.length:Int) n.1 n.2.1 n.2.2.1 n.2.2.2.1 (0,[])=some (.inl (rowsM n.2.1.length n.1.toNat (AT n))):=by
       conv=>lhs; arg 3; rw [e]
       exact tr1_eq h n.1.toNat (by omega) n.2.2.1 n.2.2.2.1 n.2.1
     have e2:=qxd (n:=n.2.1.length) (m:=n.1.toNat) (A:=AT n) (fun i j=>qup _ _) (by omega) (by omega) (by omega)
     simp only [bnd_ok,Bool.not_true,cond_false,e1,lk_inl,e2]
     rfl
end Go.Proofs.Ythakmiiaejhlbaa
