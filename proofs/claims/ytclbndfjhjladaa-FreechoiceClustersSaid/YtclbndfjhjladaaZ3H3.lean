/-
  Freechoice: the clusters of a net.
-/
import Derived.Test.YtclbndfjhjladaaZ3H2
import Derived.KernelRfl
set_option linter.all false
namespace Go.Proofs.Ytclbndfjhjladaa
open Go.K Go.M
abbrev Clu:Type:=St8
def rootsL (c:Nat→Nat) (i:Nat):List Nat:=(List.range i).filter fun r=>decide (c r=r)
def plC (c:Nat→Nat) (M i r:Nat):List Int:=((List.range i).filter fun z=>decide (z < M)&&decide (c z=r)).map fun (z:Nat)=>(z:Int)
def trC (c:Nat→Nat) (M i r:Nat):List Int:=((List.range i).filter fun z=>!decide (z < M)&&decide (c z=r)).map fun (z:Nat)=>(z:Int) - (M:Int)
def cluU (c:Nat→Nat) (M i r:Nat):Clu:=(plC c M i r,trC c M i r,())
def outU (c:Nat→Nat) (M i:Nat):List Clu:=(rootsL c i).map (cluU c M i)
theorem qrw (c:Nat→Nat) (i:Nat):rootsL c (i+1)=if c i=i then rootsL c i++[i] else rootsL c i:=by
 unfold rootsL
 rw [List.range_succ,List.filter_append]
 split
 · rename_i h; rw [List.filter_cons,if_pos (by simpa using h)]; rfl
 · rename_i h; rw [List.filter_cons,if_neg (by simpa using h)]; simp
theorem qqi {c:Nat→Nat} {i r:Nat}:r∈rootsL c i↔r < i∧c r=r:=by simp [rootsL]
theorem q11q (c:Nat→Nat) (i:Nat):(rootsL c i).length≤i:=by
 have:=List.length_filter_le (fun r=>decide (c r=r)) (List.range i)
 rwa [List.length_range] at this
theorem q143 {c:Nat→Nat} {r:Nat} (hr:c r=r):∀ {i:Nat},r < i→∃ B,rootsL c i=rootsL c r++r::B∧∀ x∈B,r < x
 | 0, h => by omega
 | i + 1, h => by
   by_cases e:r=i
   · subst e
     exact ⟨[],by rw [qrw,if_pos hr],fun x hx=>by cases hx⟩
   · obtain ⟨B,h1,h2⟩:=q143 hr (i:=i) (by omega)
     rw [qrw]
     split
     · exact ⟨B++[i],by rw [h1,List.append_assoc]; rfl,fun x hx=>by rcases List.mem_append.1 hx with hx | hx; exact h2 x hx; rw [List.mem_singleton.1 hx]; omega⟩
     · exact ⟨B,h1,h2⟩
theorem qpu (c:Nat→Nat) (M i r:Nat):cluU c M (i+1) r=if c i=r then (if i < M then (plC c M i r++[(i:Int)],trC c M i r,()) else (plC c M i r,trC c M i r++[(i:Int) - (M:Int)],())) else cluU c M i r:=by
 unfold cluU plC trC
 simp only [List.range_succ,List.filter_append,List.filter_cons,List.filter_nil,List.map_append]
 by_cases h1:c i=r<;>by_cases h2:i < M<;>simp [h1,h2]
theorem q1hu {c:Nat→Nat} (hc:Rep c) {M i:Nat}:cluU c M i i=([],[],()):=by
 have:∀ z∈List.range i,¬ c z=i:=fun z hz=>by have:=hc.le z; have:=List.mem_range.1 hz; omega
 unfold cluU plC trC
 rw [List.filter_eq_nil_iff.2 (fun z hz=>by simp [this z hz]),List.filter_eq_nil_iff.2 (fun z hz=>by simp [this z hz])]
 rfl
theorem q1h5 (c:Nat→Nat) (M i r:Nat):(cluU c M i r).1.length≤i∧(cluU c M i r).2.1.length≤i:=by
 unfold cluU plC trC
 simp only [List.length_map]
 have h1:=List.length_filter_le (fun z=>decide (z < M)&&decide (c z=r)) (List.range i)
 have h2:=List.length_filter_le (fun z=>!decide (z < M)&&decide (c z=r)) (List.range i)
 rw [List.length_range] at h1 h2
 exact ⟨h1,h2⟩
theorem q17k {β:Type} (k k':Int) (x:β):∀ (l:List (Int×β)),mfind (.int .i64) k (mput (.int .i64) k' x l)=bif k == k' then some x else mfind (.int .i64) k l
 | [] => rfl
 | e :: l => by
   have ih:=q17k k k' x l
   show mfind (.int .i64) k (bif k' == e.1 then (k',x)::l else e::mput (.int .i64) k' x l)=bif k == k' then some x else (bif k == e.1 then some e.2 else mfind (.int .i64) k l)
   cases h1:k' == e.1 with
   | true =>
     have h1:=eq_of_beq h1
     subst h1
     show (bif k == e.1 then some x else mfind (.int .i64) k l)=_
     cases k == e.1<;>rfl
   | false =>
     show (bif k == e.1 then some e.2 else mfind (.int .i64) k (mput (.int .i64) k' x l))=_
     rw [ih]
     cases h2:k == e.1<;>cases h3:k == k'<;>first | rfl | (have h2:=eq_of_beq h2; have h3:=eq_of_beq h3; subst h2; subst h3; simp at h1)
theorem T2_eq (X Z:List Clu) (y:Clu) (i M:Nat) (hi:i≤1000) (hM:M≤1000) (hX:X.length≤1000) (hZ:Z.length≤1000) (hy:y.1.length≤1000∧y.2.1.length≤1000) (a b c d:Int) (ts:List Trans) (P:Int) (mp:List (Int×Int)) (ps:List Int) (k:Int) (hk:k=(X.length:Int)) :
   q65 (i:Int) k a b (M:Int) ts c d P mp (X++y::Z) ps=some (.inl (X++(if i < M then (y.1++[(i:Int)],y.2.1,()) else (y.1,y.2.1++[(i:Int) - (M:Int)],()))::Z)):=by
 subst hk
 have hg:(X++y::Z).getD X.length St8.z=y:=by simp [List.getD_eq_getElem?_getD]
 have hs:∀ v,(X++y::Z).set X.length v=X++v::Z:=fun v=>by simp [List.set_append]
 have hl:∀ v:Clu,(X++v::Z).length=X.length+(Z.length+1):=fun v=>by simp
 obtain ⟨h1,h2⟩:=hy
 unfold q65
 by_cases e:i < M
 · rw [if_pos e]
   simp (disch:=omega) only [q59,hg,hs,hl,qpj,ckB_ix,qb,q9,qd,ckB_mk,ckB_ne,bif_lt,qe,bif_le,qc,bif_eq,qf,bif_ne,qh,qg,q8,q5,bnd_ok,lk_inl,lk_inr,Int.toNat_natCast,decide_true]
 · rw [if_neg e]
   simp (disch:=omega) only [q59,hg,hs,hl,qpj,ckB_ix,qb,q9,qd,ckB_mk,ckB_ne,bif_lt,qe,bif_le,qc,bif_eq,qf,bif_ne,qh,qg,q8,q5,bnd_ok,lk_inl,lk_inr,Int.toNat_natCast,decide_true]
section
variable {M T:Nat} (hM:M≤100) (hT:T≤100) {c:Nat→Nat} (hc:Rep c)
include hM hT hc
theorem q1cf {p:Nat→Nat} (hp:UF p c) (ts:List Trans) (a b:Int) :
   qby ((M+T:Nat):Int) (M:Int) ts a b (0,(M:Int),[],[],pL (M+T) p)=some (.inl (outU c M (M+T))):=by
 have hL:∃ o,qby ((M+T:Nat):Int) (M:Int) ts a b (0,(M:Int),[],[],pL (M+T) p)=some o∧o=.inl (outU c M (M+T)):=by
   refine qz7 (fun (s:Int×Int×List (Int×Int)×List Clu×List Int)=>∃ (i:Nat) (m:List (Int×Int)) (q:Nat→Nat),s=((i:Int),(M:Int),m,outU c M i,pL (M+T) q)∧i≤M+T∧UF q c∧∀ z:Nat,c z=z→mfind (.int .i64) (z:Int) m=if z < i then some ((rootsL c z).length:Int) else none) (fun s=>M+T - s.1.toNat) _ _ ⟨0,[],p,rfl,Nat.zero_le _,hp,fun z _=>rfl⟩ (by unfold many; simp; omega) ?_
   rintro _ ⟨i,m,q,rfl,hi,hq,hm⟩
   by_cases e:i=M+T
   · subst e
     refine ⟨.done (outU c M (M+T)),?_,rfl⟩
     simp (disch:=omega) only [q37,ckB_ix,qb,q9,qd,ckB_mk,ckB_ne,bif_lt,qe,bif_le,qc,bif_eq,qf,bif_ne,qh,qg,q8,q5,bnd_ok,lk_inl,lk_inr,Int.toNat_natCast,decide_true]
   · obtain ⟨q',hq',hroot⟩:=q19e (N:=M+T) (by omega) hc (M:Int) hq (show i < M+T by omega)
     have hidem:=hc.idem i
     have hle:=hc.le i
     have hfind:=hm (c i) hidem
     have hlen:=q11q c i
     have hlen2:=q11q c (c i)
     have holen:(outU c M i).length=(rootsL c i).length:=List.length_map _
     by_cases hnew:c i < i
     · rw [if_pos hnew] at hfind
       obtain ⟨B,hsplit,hBgt⟩:=q143 hidem hnew
       have hBl:(rootsL c i).length=(rootsL c (c i)).length+(B.length+1):=by rw [hsplit]; simp
       have hout:outU c M i=(rootsL c (c i)).map (cluU c M i)++cluU c M i (c i)::B.map (cluU c M i):=by
         unfold outU
         rw [hsplit,List.map_append]
         rfl
       have hnext:outU c M (i+1)=(rootsL c (c i)).map (cluU c M i)++(if i < M then ((cluU c M i (c i)).1++[(i:Int)],(cluU c M i (c i)).2.1,()) else ((cluU c M i (c i)).1,(cluU c M i (c i)).2.1++[(i:Int) - (M:Int)],()))::B.map (cluU c M i):=by
         unfold outU
         rw [qrw,if_neg (by omega),hsplit,List.map_append,List.map_cons,qpu,if_pos rfl]
         congr 1
         · refine List.map_congr_left fun r hr=>?_
           rw [qpu,if_neg (by have:=(qqi.1 hr).1; omega)]
         · congr 1
           refine List.map_congr_left fun r hr=>?_
           rw [qpu,if_neg (by have:=hBgt r hr; omega)]
       refine ⟨.next (((i+1:Nat):Int),(M:Int),m,outU c M (i+1),pL (M+T) q'),?_,⟨i+1,m,q',rfl,by omega,hq',fun z hz=>?_⟩,?_⟩
       · unfold q37
         rw [bif_lt (by omega),hroot]
         simp only [bnd_ok,pL_len,decide_true,qpj]
         rw [hfind]
         simp only [Option.isSome_some,Bool.not_true,cond_false,Option.getD_some]
         obtain ⟨l1,l2⟩:=q1h5 c M i (c i)
         rw [hout,T2_eq _ _ _ i M (by omega) (by omega) (by rw [List.length_map]; omega) (by rw [List.length_map]; omega) ⟨by omega,by omega⟩ _ _ _ _ _ _ _ _ _ (by rw [List.length_map]),← hnext]
         simp (disch:=omega) only [ckB_ix,qb,q9,qd,ckB_mk,ckB_ne,bif_lt,qe,bif_le,qc,bif_eq,qf,bif_ne,qh,qg,q8,q5,bnd_ok,lk_inl,lk_inr,Int.toNat_natCast,decide_true]
         rw [qy]
       · rw [hm z hz]
         by_cases e1:z < i
         · rw [if_pos e1,if_pos (by omega)]
         · rw [if_neg e1]
           by_cases e2:z=i
           · subst e2; omega
           · rw [if_neg (by omega)]
       · simp only [Int.toNat_natCast]; omega
     · have hci:c i=i:=by omega
       rw [if_neg hnew] at hfind
       rw [hci] at hfind hroot
       have hnext:outU c M (i+1)=outU c M i++[if i < M then (([]:List Int)++[(i:Int)],([]:List Int),()) else (([]:List Int),([]:List Int)++[(i:Int) - (M:Int)],())]:=by
         unfold outU
         rw [qrw,if_pos hci,List.map_append,List.map_cons,List.map_nil,qpu,if_pos hci]
         have hn:=q1hu hc (M:=M) (i:=i)
         unfold cluU at hn
         simp only [Prod.mk.injEq,and_true] at hn
         rw [hn.1,hn.2]
         congr 1
         refine List.map_congr_left fun r hr=>?_
         rw [qpu,if_neg (by have:=(qqi.1 hr).1; omega)]
       refine ⟨.next (((i+1:Nat):Int),(M:Int),mput (.int .i64) (i:Int) ((rootsL c i).length:Int) m,outU c M (i+1),pL (M+T) q'),?_,⟨i+1,_,q',rfl,by omega,hq',fun z hz=>?_⟩,?_⟩
       · unfold q37
         rw [bif_lt (by omega),hroot]
         simp only [bnd_ok,pL_len,decide_true,qpj]
         rw [hfind,holen]
         simp only [Option.isSome_none,Bool.not_false,cond_true]
         rw [q9 (by omega) (by omega)]
         refine (congrArg (fun o=>bnd o _) (T2_eq (outU c M i) [] ([],[],()) i M (by omega) (by omega) (by omega) (by simp) (by simp) _ _ _ _ _ _ _ _ _ (by rw [holen]))).trans ?_
         simp only [bnd_ok,lk_inl]
         rw [← hnext]
         simp (disch:=omega) only [ckB_ix,qb,q9,qd,ckB_mk,ckB_ne,bif_lt,qe,bif_le,qc,bif_eq,qf,bif_ne,qh,qg,q8,q5,bnd_ok,lk_inl,lk_inr,Int.toNat_natCast,decide_true]
         rw [qy]
       · rw [q17k,hm z hz]
         by_cases e2:z=i
         · subst e2
           rw [if_pos (show z < z+1 by omega)]
           simp
         · have:((z:Int) == (i:Int))=false:=by rw [beq_eq_false_iff_ne]; omega
           rw [this,cond_false]
           by_cases e1:z < i
           · rw [if_pos e1,if_pos (by omega)]
           · rw [if_neg e1,if_neg (by omega)]
       · simp only [Int.toNat_natCast]; omega
 obtain ⟨_,ho,rfl⟩:=hL
 exact ho
end
theorem q1dh {M:Nat} {ts:List Trans} (hM:M≤100) (hT:ts.length≤100) (hB:InB M ts) (a b:Int):q30 ((M:Int),ts,a,b,())=some (outU (clsF (edA M false ts ts.length)) M (M+ts.length)):=by
 obtain ⟨p,hp,h1⟩:=q1ce hM hT hB (M:Int) a b
 unfold q30
 rw [q1b8 _ ⟨by simp,by simp; omega⟩ hT]
 simp only [bnd_ok,Int.toNat_natCast]
 rw [h1]
 simp only [bnd_ok,lk_inl,pL_len]
 rw [q1cf hM hT (q12n _) hp]
 rfl
theorem q16q {n:Net} (hv:validN n=true) (h:Small n):1≤n.1∧n.1≤40∧n.2.1.length≤60∧(0≤n.2.2.1∧n.2.2.1 < n.1)∧(0≤n.2.2.2.1∧n.2.2.2.1 < n.1)∧InB n.1.toNat n.2.1:=by
 unfold validN at hv
 simp only [Bool.and_eq_true,decide_eq_true_eq,Bool.not_eq_true',List.any_eq_false] at hv
 obtain ⟨⟨⟨⟨⟨h1,h2⟩,h3⟩,h4⟩,h5⟩,h6⟩:=hv
 refine ⟨h1,h2,h3,h5,h6,fun t ht=>?_⟩
 have:=h4 t ht
 unfold badT at this
 simp only [Bool.or_eq_true,not_or,Bool.not_eq_true',Bool.not_eq_false] at this
 have s1:=(q15u.1 this.1.2).1
 have s2:=(q15u.1 this.2).1
 rw [Int.toNat_of_nonneg (by omega)]
 exact ⟨⟨h.ins t ht,h.outs t ht⟩,s1,s2⟩
def cluN (n:Net):List Clu:=outU (clsF (edA n.1.toNat false n.2.1 n.2.1.length)) n.1.toNat (n.1.toNat+n.2.1.length)
theorem q1fm {n:Net} (hv:validN n=true) (h:Small n):q30 n=some (cluN n):=by
 obtain ⟨p1,p2,p3,_,_,hB⟩:=q16q hv h
 have e:((n.1.toNat:Nat):Int)=n.1:=Int.toNat_of_nonneg (by omega)
 have h1:=q1dh (M:=n.1.toNat) (ts:=n.2.1) (by omega) (by omega) hB n.2.2.1 n.2.2.2.1
 rw [e] at h1
 exact h1
end Go.Proofs.Ytclbndfjhjladaa
