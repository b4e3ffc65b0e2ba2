/-
  Flow: the reference's invariants; FlowInvariants.
-/
import Derived.Test.YthakmiiaejhlbaaZ3F7
set_option linter.all false
namespace Go.Proofs.Ythakmiiaejhlbaa
open Go.K Go.M
def LeL (a b:List Int):Prop:=ltL b a=false
theorem q15q {a b c:List Int} (h1:LeL a b) (h2:LeL b c):LeL a c:=q9z.ntrans _ _ _ h2 h1
theorem q159 {out:Rw} {x:List Int} {e:Nat} (hs:out.Pairwise LeL) (h1:e≤out.length) (h2:∀ j,j < e→ltL (out.getD j []) x=true) (h3:e=out.length∨ltL (out.getD e []) x=false):((out.take e++[x])++out.drop e).Pairwise LeL:=by
 have ht:∀ y∈out.take e,LeL y x:=by
   intro y hy
   obtain ⟨j,hj,rfl⟩:=qkb [] hy
   rw [List.length_take] at hj
   have e1:(out.take e).getD j []=out.getD j []:=by
     rw [List.getD_eq_getElem?_getD,List.getElem?_take,if_pos (by omega),← List.getD_eq_getElem?_getD]
   rw [e1]
   have:=h2 j (by omega)
   cases hc:ltL x (out.getD j []) with
   | false => exact hc
   | true =>
     have:=qie _ _ _ hc this
     rw [qtn] at this
     cases this
 have hd:∀ y∈out.drop e,LeL x y:=by
   intro y hy
   obtain ⟨j,hj,rfl⟩:=qkb [] hy
   rw [List.length_drop] at hj
   have e1:(out.drop e).getD j []=out.getD (e+j) []:=by
     rw [List.getD_eq_getElem?_getD,List.getElem?_drop,← List.getD_eq_getElem?_getD]
   rw [e1]
   rcases h3 with h3 | h3
   · omega
   · rcases Nat.eq_zero_or_pos j with h0 | h0
     · rw [h0]
       exact h3
     · have:=(List.pairwise_iff_getElem.1 hs) e (e+j) (by omega) (by omega) (by omega)
       rw [← qcf out e [] (by omega),← qcf out (e+j) [] (by omega)] at this
       exact q15q (b:=out.getD e []) h3 this
 have hall:=hs
 rw [← List.take_append_drop e out,List.pairwise_append] at hall
 rw [List.append_assoc,List.pairwise_append,List.singleton_append,List.pairwise_cons]
 refine ⟨hall.1,⟨hd,hall.2.1⟩,fun y hy z hz=>?_⟩
 rcases List.mem_cons.1 hz with rfl | hz
 · exact ht y hy
 · exact hall.2.2 y hy z hz
theorem q16z (out:Rw) (x:List Int) (e:Nat):((out.take e++[x])++out.drop e).Perm (out++[x]):=by
 rw [List.append_assoc,List.singleton_append]
 refine List.perm_middle.trans ?_
 rw [List.take_append_drop]
 exact (List.perm_append_singleton x out).symm
theorem srt_of {out d:Rw} (hp:out.Perm d) (hs:out.Pairwise LeL):out=srt d:=by
 refine List.Perm.eq_of_pairwise (le:=fun x y=>(!ltL y x)=true) ?_ ?_ ?_ (hp.trans (List.mergeSort_perm _ _).symm)
 · intro a b _ _ h1 h2
   simp only [Bool.not_eq_true'] at h1 h2
   exact qtv a b h2 h1
 · exact hs.imp fun h=>by rw [Bool.not_eq_true']; exact h
 · refine List.pairwise_mergeSort ?_ ?_ d
   · intro a b c h1 h2
     rw [Bool.not_eq_true'] at h1 h2 ⊢
     exact q9z.ntrans _ _ _ h2 h1
   · intro a b
     cases h1:ltL b a with
     | false => rfl
     | true =>
       cases h2:ltL a b with
       | false => rfl
       | true =>
         have:=qie _ _ _ h1 h2
         rw [qtn] at this
         cases this
theorem q19c (a b:List Int) (hab:a.length=b.length) (ha:a.length≤1000000):qjr a b=some (ltL a b):=by
 have hloop:∃ o,qs9 a b 0=some o∧(match o with | .inl _=>false=ltL a b | .inr r=>r=ltL a b):=by
   refine q3q (fun (st:Int)=>∃ i:Nat,i≤a.length∧st=(i:Int)∧ltL (a.drop i) (b.drop i)=ltL a b) (fun st=>((a.length:Int) - st).toNat) (fun (o:Unit⊕Bool)=>match o with | .inl _=>false=ltL a b | .inr r=>r=ltL a b) _ ⟨0,Nat.zero_le _,rfl,rfl⟩ (by show ((a.length:Int) - 0).toNat < many; unfold many; omega) ?_
   rintro _ ⟨i,hi,rfl,he⟩
   by_cases h:i < a.length
   · have h2:i < b.length:=by omega
     rw [q10u a b i h h2] at he
     by_cases heq:a.getD i 0=b.getD i 0
     · rw [if_pos heq] at he
       refine ⟨.next (((i+1:Nat):Int)),?_,⟨i+1,by omega,rfl,he⟩,by show ((a.length:Int) - ((i+1:Nat):Int)).toNat < ((a.length:Int) - (i:Int)).toNat; omega⟩
       simp (disch:=omega) only [qaj,ckB_ix,q7,q6,qd,ckB_mk,ckB_ne,bif_lt,q9,bif_le,qb,bif_eq,q8,bif_ne,qa,qc,q5,q4,bnd_ok,lk_inl,lk_inr,Int.toNat_natCast,decide_true]
       rw [qf]
     · rw [if_neg heq] at he
       refine ⟨.ret (decide (a.getD i 0 < b.getD i 0)),?_,he⟩
       simp (disch:=omega) only [qaj,ckB_ix,q7,q6,qd,ckB_mk,ckB_ne,bif_lt,q9,bif_le,qb,bif_eq,q8,bif_ne,qa,qc,q5,q4,bnd_ok,lk_inl,lk_inr,Int.toNat_natCast,decide_true]
   · have e:i=a.length:=by omega
     subst e
     refine ⟨.done (),?_,?_⟩
     · simp (disch:=omega) only [qaj,ckB_ix,q7,q6,qd,ckB_mk,ckB_ne,bif_lt,q9,bif_le,qb,bif_eq,q8,bif_ne,qa,qc,q5,q4,bnd_ok,lk_inl,lk_inr,Int.toNat_natCast,decide_true]
     · show false=ltL a b
       rw [← he,List.drop_length,hab,List.drop_length]
       rfl
 obtain ⟨o,ho,hp⟩:=hloop
 unfold qjr
 rw [ho]
 cases o with
 | inl u => rw [← hp]; rfl
 | inr r => rw [← hp]; rfl
def q13y (n:Nat) (d:Rw):Prop:=∀ x∈d,x.length=n
theorem q18f {n:Nat} (hn:n≤1000) (L:List RowE) (out:Rw) (k:Nat) (hk:k < L.length) (hx:(L.getD k ([],[])).2.length=n) (hl:out.length≤1000000) (ho:q13y n out) :
   ∃ e:Nat,qha (rsE L) out (k:Int) 0=some (.inl (e:Int))∧e≤out.length∧(∀ j,j < e→ltL (out.getD j []) (L.getD k ([],[])).2=true)∧(e=out.length∨ltL (out.getD e []) (L.getD k ([],[])).2=false):=by
 have hloop:∃ o,qha (rsE L) out (k:Int) 0=some o∧∃ e:Nat,o=.inl (e:Int)∧e≤out.length∧(∀ j,j < e→ltL (out.getD j []) (L.getD k ([],[])).2=true)∧(e=out.length∨ltL (out.getD e []) (L.getD k ([],[])).2=false):=by
   refine q3q (fun (st:Int)=>∃ i:Nat,i≤out.length∧st=(i:Int)∧∀ j,j < i→ltL (out.getD j []) (L.getD k ([],[])).2=true) (fun st=>((out.length:Int) - st).toNat) (fun (o:Int⊕(Rw×Int))=>∃ e:Nat,o=.inl (e:Int)∧e≤out.length∧(∀ j,j < e→ltL (out.getD j []) (L.getD k ([],[])).2=true)∧(e=out.length∨ltL (out.getD e []) (L.getD k ([],[])).2=false)) _ ⟨0,Nat.zero_le _,rfl,fun j h=>by omega⟩ (by show ((out.length:Int) - 0).toNat < many; unfold many; omega) ?_
   rintro _ ⟨i,hi,rfl,hj⟩
   by_cases h:i < out.length
   · have hlen:=ho _ (qr [] h)
     have e1:=q19c (out.getD i []) (L.getD k ([],[])).2 (by omega) (by omega)
     cases hq:ltL (out.getD i []) (L.getD k ([],[])).2 with
     | true =>
       rw [hq] at e1
       refine ⟨.next (((i+1:Nat):Int)),?_,⟨i+1,h,rfl,fun j hj'=>?_⟩,by show ((out.length:Int) - ((i+1:Nat):Int)).toNat < ((out.length:Int) - (i:Int)).toNat; omega⟩
       · simp (disch:=omega) only [q8q,rs_len,rs_at,toR2,e1,ckB_ix,q7,q6,qd,ckB_mk,ckB_ne,bif_lt,q9,bif_le,qb,bif_eq,q8,bif_ne,qa,qc,q5,q4,bnd_ok,lk_inl,lk_inr,Int.toNat_natCast,decide_true]
         rw [qf]
       · by_cases hji:j=i
         · rw [hji]; exact hq
         · exact hj j (by omega)
     | false =>
       rw [hq] at e1
       refine ⟨.done (i:Int),?_,i,rfl,hi,hj,Or.inr hq⟩
       simp (disch:=omega) only [q8q,rs_len,rs_at,toR2,e1,ckB_ix,q7,q6,qd,ckB_mk,ckB_ne,bif_lt,q9,bif_le,qb,bif_eq,q8,bif_ne,qa,qc,q5,q4,bnd_ok,lk_inl,lk_inr,Int.toNat_natCast,decide_true]
   · refine ⟨.done (i:Int),?_,i,rfl,hi,hj,Or.inl (by omega)⟩
     simp (disch:=omega) only [q8q,ckB_ix,q7,q6,qd,ckB_mk,ckB_ne,bif_lt,q9,bif_le,qb,bif_eq,q8,bif_ne,qa,qc,q5,q4,bnd_ok,lk_inl,lk_inr,Int.toNat_natCast,decide_true]
 obtain ⟨_,ho,e,rfl,h1,h2,h3⟩:=hloop
 exact ⟨e,ho,h1,h2,h3⟩
theorem q196 {n:Nat} (hn:n≤1000) (L:List RowE) (out:Rw) (k:Nat) (hk:k < L.length) (hx:(L.getD k ([],[])).2.length=n):qoc (rsE L) out (k:Int) 0=some (bif bigL (L.getD k ([],[])).2 then .inr ([],6) else .inl ()):=by
 refine q8m (L.getD k ([],[])).2 0 (fun k=>decide (1048576 < k)) ([],6) (by omega) (fun i hi=>?_) ?_
 · simp (disch:=omega) only [qaw,rs_len,rs_at,toR2,ckB_ix,q7,q6,qd,ckB_mk,ckB_ne,bif_lt,q9,bif_le,qb,bif_eq,q8,bif_ne,qa,qc,q5,q4,bnd_ok,lk_inl,lk_inr,Int.toNat_natCast,decide_true]
   rw [qf]
   cases decide (1048576 < (L.getD k ([],[])).2.getD i 0)<;>rfl
 · simp (disch:=omega) only [qaw,rs_len,rs_at,toR2,ckB_ix,q7,q6,qd,ckB_mk,ckB_ne,bif_lt,q9,bif_le,qb,bif_eq,q8,bif_ne,qa,qc,q5,q4,bnd_ok,lk_inl,lk_inr,Int.toNat_natCast,decide_true]
theorem q11a {n:Nat} (hn:n≤1000) (L:List RowE) (hL:∀ r∈L,r.2.length=n) (hl:L.length≤100000):qfk (rsE L)=some (resE (mdE L)):=by
 have hlen:(mdE L).length=L.length:=md_len L
 have hp:=qvi (mdE L)
 unfold qfk resE
 by_cases h1000:1000 < L.length
 · rw [decide_eq_true (show 1000 < (mdE L).length by omega)]
   simp (disch:=omega) only [rs_len,ckB_ix,q7,q6,qd,ckB_mk,ckB_ne,bif_lt,q9,bif_le,qb,bif_eq,q8,bif_ne,qa,qc,q5,q4,bnd_ok,lk_inl,lk_inr,Int.toNat_natCast,decide_true]
 · rw [decide_eq_false (show ¬ 1000 < (mdE L).length by omega)]
   have hloop:∃ o,qpe (rsE L) ([],0)=some o∧o=bif (mdE L).any bigL then .inr ([],6) else .inl (srt (mdE L)):=by
     refine q3q (fun (st:Rw×Int)=>∃ i:Nat,i≤L.length∧st.2=(i:Int)∧st.1.Perm (mdE (L.take i))∧st.1.Pairwise LeL∧(mdE (L.take i)).any bigL=false) (fun st=>((L.length:Int) - st.2).toNat) (fun (o:Rw⊕(Rw×Int))=>o=bif (mdE L).any bigL then .inr ([],6) else .inl (srt (mdE L))) _ ⟨0,Nat.zero_le _,rfl,List.Perm.refl _,List.Pairwise.nil,rfl⟩ (by show ((L.length:Int) - 0).toNat < many; unfold many; omega) ?_
     rintro ⟨out,_⟩ ⟨i,hi,rfl,hpm,hs,hb⟩
     have hpm:out.Perm (mdE (L.take i)):=hpm
     have hs:out.Pairwise LeL:=hs
     by_cases h:i < L.length
     · have hx:=hL _ (qr ([],[]) h)
       have e0:=q196 hn L out i h hx
       have et:mdE (L.take (i+1))=mdE (L.take i)++[(L.getD i ([],[])).2]:=by
         rw [qgh L i ([],[]) h]
         simp [mdE]
       cases hbg:bigL (L.getD i ([],[])).2 with
       | true =>
         rw [hbg] at e0
         have hany:(mdE L).any bigL=true:=List.any_eq_true.2 ⟨(L.getD i ([],[])).2,qtk.2 ⟨_,qr _ h,rfl⟩,hbg⟩
         refine ⟨.ret ([],6),?_,by rw [hany]; rfl⟩
         simp (disch:=omega) only [q8w,rs_len,e0,q5,ckB_ix,q7,q6,qd,ckB_mk,ckB_ne,bif_lt,q9,bif_le,qb,bif_eq,q8,bif_ne,qa,qc,q5,q4,bnd_ok,lk_inl,lk_inr,Int.toNat_natCast,decide_true]
       | false =>
         rw [hbg] at e0
         have hol:out.length=i:=by
           rw [hpm.length_eq,md_len,List.length_take]; omega
         have hosl:q13y n out:=fun y hy=>by
           obtain ⟨r,hr,rfl⟩:=qtk.1 (hpm.mem_iff.1 hy)
           exact hL r (List.mem_of_mem_take hr)
         obtain ⟨e,e1,e2,e3,e4⟩:=q18f hn L out i h hx (by omega) hosl
         refine ⟨.next ((out.take e++[(L.getD i ([],[])).2])++out.drop e,((i+1:Nat):Int)),?_,⟨i+1,h,rfl,?_,q159 hs e2 e3 e4,?_⟩,by show ((L.length:Int) - ((i+1:Nat):Int)).toNat < ((L.length:Int) - (i:Int)).toNat; omega⟩
         · have t1:(out.take e).length≤i:=by rw [List.length_take]; omega
           have t2:(out.drop e).length≤i:=by rw [List.length_drop]; omega
           simp (disch:=omega) only [q8w,rs_len,rs_at,toR2,e0,q4,e1,List.length_append,List.length_singleton,ckB_ix,q7,q6,qd,ckB_mk,ckB_ne,bif_lt,q9,bif_le,qb,bif_eq,q8,bif_ne,qa,qc,q5,q4,bnd_ok,lk_inl,lk_inr,Int.toNat_natCast,decide_true]
           rw [qf]
         · show ((out.take e++[(L.getD i ([],[])).2])++out.drop e).Perm (mdE (L.take (i+1)))
           rw [et]
           exact (q16z out _ e).trans (hpm.append_right _)
         · show (mdE (L.take (i+1))).any bigL=false
           rw [et,List.any_append,hb,List.any_cons,hbg]
           rfl
     · have e:i=L.length:=by omega
       subst e
       rw [List.take_length] at hpm hb
       refine ⟨.done out,?_,?_⟩
       · simp (disch:=omega) only [q8w,rs_len,ckB_ix,q7,q6,qd,ckB_mk,ckB_ne,bif_lt,q9,bif_le,qb,bif_eq,q8,bif_ne,qa,qc,q5,q4,bnd_ok,lk_inl,lk_inr,Int.toNat_natCast,decide_true]
       · rw [hb,srt_of hpm hs]
         rfl
   obtain ⟨_,ho,rfl⟩:=hloop
   have hab:(srt (mdE L)).any bigL=(mdE L).any bigL:=by
     rw [Bool.eq_iff_iff,List.any_eq_true,List.any_eq_true]
     exact ⟨fun ⟨x,hx,hb⟩=>⟨x,hp.mem_iff.1 hx,hb⟩,fun ⟨x,hx,hb⟩=>⟨x,hp.mem_iff.2 hx,hb⟩⟩
   rw [hab,ho]
   simp (disch:=omega) only [rs_len,ckB_ix,q7,q6,qd,ckB_mk,ckB_ne,bif_lt,q9,bif_le,qb,bif_eq,q8,bif_ne,qa,qc,q5,q4,bnd_ok,lk_inl,lk_inr,Int.toNat_natCast,decide_true]
   cases (mdE L).any bigL<;>rfl
theorem q176 (N k:Nat) (hk:k < N) (hN:N≤1000):qju (N:Int) (k:Int)=some (unitE N k):=by
 unfold qju
 simp (disch:=omega) only [List.length_replicate,q11q,ckB_ix,q7,q6,qd,ckB_mk,ckB_ne,bif_lt,q9,bif_le,qb,bif_eq,q8,bif_ne,qa,qc,q5,q4,bnd_ok,lk_inl,lk_inr,Int.toNat_natCast,decide_true]
section
variable {n:Net} (h:Small n)
include h in
theorem q18s (p:Nat) (n1 n2 n3:Int) (l:List RowR) (x:List Int):qoq (p:Int) n1 n.2.1 n2 n3 l x (0,[])=some (.inl (tab n.2.1.length fun j=>AP n p j)):=by
 have hl:=h.trans
 refine q1c (fun i:Nat=>((i:Int),tab i fun j=>AP n p j)) n.2.1.length (q11 (by omega)) _ (fun i hi=>?_) ?_ _ rfl
 · have ht:=qr Trans.z hi
   have h1:=h.ins _ ht
   have h2:=h.outs _ ht
   have e:=At_eq (n.2.1.getD i Trans.z) (p:Int) (by omega) (by omega)
   rw [qdu]
   simp (disch:=omega) only [qb0,e,q4g,ckB_ix,q7,q6,qd,ckB_mk,ckB_ne,bif_lt,q9,bif_le,qb,bif_eq,q8,bif_ne,qa,qc,q5,q4,bnd_ok,lk_inl,lk_inr,Int.toNat_natCast,decide_true]
   rw [qf]
   rfl
 · simp (disch:=omega) only [qb0,ckB_ix,q7,q6,qd,ckB_mk,ckB_ne,bif_lt,q9,bif_le,qb,bif_eq,q8,bif_ne,qa,qc,q5,q4,bnd_ok,lk_inl,lk_inr,Int.toNat_natCast,decide_true]
include h in
theorem q19f (N:Nat) (hN:N≤40) (n2 n3:Int):qgm (N:Int) n.2.1 n2 n3 (0,[])=some (.inl (rsE (startE N n.2.1.length (AP n)))):=by
 refine q1c (fun i:Nat=>((i:Int),rsE (tab i fun p=>(tab n.2.1.length fun j=>AP n p j,unitE N p)))) N (q11 (by omega)) _ (fun i hi=>?_) ?_ _ rfl
 · have e:=q18s h i (N:Int) n2 n3 (rsE (tab i fun p=>(tab n.2.1.length fun j=>AP n p j,unitE N p))) (unitE N i)
   have e1:=q176 N i hi (by omega)
   rw [qdu,← rs_app]
   simp (disch:=omega) only [qav,e,e1,rs_len,q4g,ckB_ix,q7,q6,qd,ckB_mk,ckB_ne,bif_lt,q9,bif_le,qb,bif_eq,q8,bif_ne,qa,qc,q5,q4,bnd_ok,lk_inl,lk_inr,Int.toNat_natCast,decide_true]
   rw [qf]
   rfl
 · simp (disch:=omega) only [qav,ckB_ix,q7,q6,qd,ckB_mk,ckB_ne,bif_lt,q9,bif_le,qb,bif_eq,q8,bif_ne,qa,qc,q5,q4,bnd_ok,lk_inl,lk_inr,Int.toNat_natCast,decide_true]
   rfl
include h in
include h in
end
theorem q12s (n:Net):qhg n=some (largeB n):=by
 unfold qhg largeB
 have e:decide ((20:Int) < (n.2.1.length:Int))=decide (20 < n.2.1.length):=decide_eq_decide.2 (by omega)
 rw [e]
 cases decide (20 < n.1)<;>rfl
theorem q10r {n:Net} (h:1≤n.1):GoodE n.1.toNat n.2.1.length n.2.1.length (AP n) (plE n):=qf6 (qk4 _ _ _) _ (Nat.le_refl _)
theorem qsq {n:Net} (h:Small n) (hf:FewN n):qfz n=some (outP n):=by
 unfold qfz outP
 rw [qv3 h,q12s]
 cases hv:validN n with
 | false => rfl
 | true =>
   cases hl:largeB n with
   | true => rfl
   | false =>
     obtain ⟨v1,v2,v3⟩:=qna hv
     obtain ⟨f1,f2⟩:=qse hf hl
     have e:n.1=(n.1.toNat:Int):=by omega
     have e1:qgm n.1 n.2.1 n.2.2.1 n.2.2.2.1 (0,[])=some (.inl (rsE (startE n.1.toNat n.2.1.length (AP n)))):=by
       conv=>lhs; arg 1; rw [e]
       exact q19f h n.1.toNat (by omega) n.2.2.1 n.2.2.2.1
     have e2:=q14o (n:=n.1.toNat) (m:=n.2.1.length) (A:=AP n) (fun i j=>q13h _ _) (by omega) (by omega) (by omega)
     have hG:=q10r v1
     have e3:=q11a (n:=n.1.toNat) (by omega) (plE n) (fun r hr=>(hG.row r hr).len) (by have:=qby hG (by omega); omega)
     have e2:q8s (n.2.1.length:Int) (rsE (startE n.1.toNat n.2.1.length (AP n)))=some (rsE (plE n),true,[]):=e2
     simp only [bnd_ok,Bool.not_true,cond_false,e1,lk_inl,e2,e3]
structure OutOK (n:Nat) (r:Rw×Int):Prop where
 len:r.1.length≤1000
 row:∀ x∈r.1,x.length=n∧∀ i,0≤x.getD i 0∧x.getD i 0≤1048576
 err:r.2≠0→r.1=[]
theorem q190 {n m c:Nat} {A:Nat→Nat→Int} {L:List RowE} (hG:GoodE n m c A L):OutOK n (resE (mdE L)):=by
 unfold resE
 cases h1:decide (1000 < (mdE L).length) with
 | true => exact ⟨Nat.zero_le _,fun x hx=>by simp at hx,fun _=>rfl⟩
 | false =>
   have hl:=of_decide_eq_false h1
   have hp:=qvi (mdE L)
   cases h2:(srt (mdE L)).any bigL with
   | true => exact ⟨Nat.zero_le _,fun x hx=>by simp at hx,fun _=>rfl⟩
   | false =>
     refine ⟨by show (srt (mdE L)).length≤1000; rw [hp.length_eq]; omega,fun x hx=>?_,fun h=>absurd rfl h⟩
     have hx:x∈srt (mdE L):=hx
     obtain ⟨r,hr,rfl⟩:=qtk.1 (hp.mem_iff.1 hx)
     have ho:=hG.row r hr
     refine ⟨ho.len,fun i=>?_⟩
     by_cases hi:i < r.2.length
     · refine ⟨ho.sol.1 i (by rw [← ho.len]; exact hi),?_⟩
       have:=List.any_eq_false.1 h2 r.2 hx
       unfold bigL at this
       rw [Bool.not_eq_true,List.any_eq_false] at this
       have:=this _ (qr 0 hi)
       simpa using this
     · rw [List.getD_eq_getElem?_getD,List.getElem?_eq_none (by omega)]
       exact ⟨Int.le_refl _,by show (0:Int)≤1048576; omega⟩
theorem qxm {n:Net}:OutOK n.1.toNat (outP n):=by
 unfold outP
 cases hv:validN n with
 | false => exact ⟨Nat.zero_le _,fun x hx=>by simp at hx,fun _=>rfl⟩
 | true =>
   cases largeB n with
   | true => exact ⟨Nat.zero_le _,fun x hx=>by simp at hx,fun _=>rfl⟩
   | false => exact q190 (q10r (qna hv).1)
end Go.Proofs.Ythakmiiaejhlbaa
