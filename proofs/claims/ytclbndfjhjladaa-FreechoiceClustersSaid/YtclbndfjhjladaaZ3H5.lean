/-
  Freechoice: clusters divide the net: the law.
-/
import Derived.Test.YtclbndfjhjladaaZ3H4
set_option linter.all false
namespace Go.Proofs.Ytclbndfjhjladaa
open Go.K Go.M
theorem q19g {M:Nat} {ts:List Trans} {i:Nat} {e:Nat×Nat}:e∈edA M false ts i↔∃ t,t < i∧∃ x∈(ts.getD t Trans.z).2.1,e=(x.toNat,M+t):=by
 unfold edA edT lstB
 simp only [cond_false,List.mem_flatMap,List.mem_range,List.mem_map]
 constructor
 · rintro ⟨t,ht,x,hx,rfl⟩; exact ⟨t,ht,x,hx,rfl⟩
 · rintro ⟨t,ht,x,hx,rfl⟩; exact ⟨t,ht,x,hx,rfl⟩
section
variable {M:Nat} {ts:List Trans} {c:Nat→Nat} (hcd:clsF (edA M false ts ts.length)=c)
include hcd
theorem in_cls {t:Nat} (ht:t < ts.length) {x:Int} (hx:x∈(ts.getD t Trans.z).2.1):c x.toNat=c (M+t):=by
 rw [← hcd]
 exact q1hw (e:=(x.toNat,M+t)) (q19g.2 ⟨t,ht,x,hx,rfl⟩)
theorem q1g9 {r:Nat} (h:1 < (Pr c M (M+ts.length) r).length):Tr c M (M+ts.length) r≠[]:=by
 intro hn
 have h0:=Pr_mem.1 (qz 0 (show 0 < (Pr c M (M+ts.length) r).length by omega))
 have h1:=Pr_mem.1 (qz 0 h)
 have hlt:=List.pairwise_iff_getElem.1 (Pr_asc c M (M+ts.length) r) 0 1 (by omega) h (by omega)
 rw [← q8o _ 0 0,← q8o _ 1 0] at hlt
 generalize (Pr c M (M+ts.length) r).getD 0 0=a at h0 hlt
 generalize (Pr c M (M+ts.length) r).getD 1 0=b at h1 hlt
 have hS:∀ e∈edA M false ts ts.length,e.1=a↔e.2=a:=fun e he=>by
   obtain ⟨t,ht,x,hx,rfl⟩:=q19g.1 he
   constructor
   · rintro rfl
     have:=in_cls hcd ht hx
     have:t∈Tr c M (M+ts.length) r:=Tr_mem.2 ⟨ht,by rw [← this]; exact h0.2⟩
     rw [hn] at this; cases this
   · intro e
     have:=h0.1
     simp only at e
     omega
 have:=(q17e (S:=fun z=>z=a) (x:=a) (y:=b) hS (by rw [hcd,h0.2,h1.2])).1 rfl
 omega
end
theorem q1i3 {a b:List Int}:comB a b=true↔∃ x∈a,x∈b:=by
 unfold comB
 rw [List.any_eq_true]
 constructor
 · rintro ⟨x,h1,h2⟩; exact ⟨x,h1,q15i.1 h2⟩
 · rintro ⟨x,h1,h2⟩; exact ⟨x,h1,q15i.2 h2⟩
theorem q1ik {a b:List Int}:frB a b=true↔((∃ x∈a,x∈b)→a=b):=by
 unfold frB
 rw [Bool.or_eq_true,Bool.not_eq_true',decide_eq_true_iff,← q1i3]
 cases comB a b<;>simp
theorem q1go {ts:List Trans}:freeN ts=true↔∀ i k,i < ts.length→k < ts.length→(∃ x∈(ts.getD i Trans.z).2.1,x∈(ts.getD k Trans.z).2.1)→(ts.getD i Trans.z).2.1=(ts.getD k Trans.z).2.1:=by
 unfold freeN
 simp only [List.all_eq_true,List.mem_range,q1ik]
 constructor
 · intro h i k hi hk hx
   rcases Nat.lt_trichotomy i k with e | e | e
   · obtain ⟨x,h1,h2⟩:=hx
     exact (h k hk i e ⟨x,h2,h1⟩).symm
   · rw [e]
   · exact h i hi k e hx
 · intro h i hi k hk hx
   exact h i k hi (by omega) hx
def freeC (ts:List Trans) (c:Nat→Nat) (M:Nat) (R:List Nat):Bool:=R.all fun r=>(Tr c M (M+ts.length) r).all fun z=>decide ((ts.getD z Trans.z).2.1=plC c M (M+ts.length) r)
section
variable {M:Nat} {ts:List Trans} (hM:M≤100) (hT:ts.length≤100) (hB:InB M ts) {c:Nat→Nat} (hcd:clsF (edA M false ts ts.length)=c)
include hB hcd
theorem in_pl {t:Nat} {r:Nat} (ht:t < ts.length) (hr:c (M+t)=r):∀ x∈(ts.getD t Trans.z).2.1,x∈plC c M (M+ts.length) r:=by
 intro x hx
 have h1:=(hB _ (qz Trans.z ht)).2.1 x hx
 rw [qt1]
 refine q1cv.2 ⟨h1.1,Pr_mem.2 ⟨by omega,?_⟩⟩
 rw [in_cls hcd ht hx,hr]
theorem q1fz (hasc:∀ t∈ts,t.2.1.Pairwise (· < ·)):freeC ts c M (rootsL c (M+ts.length))=freeN ts:=by
 have hc:Rep c:=hcd ▸ q12n _
 have key:∀ t,t < ts.length→c (M+t)∈rootsL c (M+ts.length):=fun t ht=>by
   have:=hc.le (M+t)
   exact qqi.2 ⟨by omega,hc.idem _⟩
 rw [Bool.eq_iff_iff,q1go]
 unfold freeC
 simp only [List.all_eq_true,decide_eq_true_eq]
 constructor
 · rintro h i k hi hk ⟨x,h1,h2⟩
   have e1:=in_cls hcd hi h1
   have e2:=in_cls hcd hk h2
   rw [h _ (key i hi) i (Tr_mem.2 ⟨hi,rfl⟩),h _ (key i hi) k (Tr_mem.2 ⟨hk,by rw [← e2,e1]⟩)]
 · intro h r hr t ht
   obtain ⟨ht,hcr⟩:=Tr_mem.1 ht
   refine q1dw (hasc _ (qz Trans.z ht)) (by rw [qt1]; exact q1i2 (Pr_asc _ _ _ _)) fun x=>⟨in_pl hB hcd ht hcr x,fun hx=>?_⟩
   rw [qt1] at hx
   obtain ⟨hx0,hx1⟩:=q1cv.1 hx
   obtain ⟨hx1,hx2⟩:=Pr_mem.1 hx1
   have hS:∀ e∈edA M false ts ts.length,(if e.1 < M then (e.1:Int)∈(ts.getD t Trans.z).2.1 else (ts.getD (e.1 - M) Trans.z).2.1=(ts.getD t Trans.z).2.1)↔(if e.2 < M then (e.2:Int)∈(ts.getD t Trans.z).2.1 else (ts.getD (e.2 - M) Trans.z).2.1=(ts.getD t Trans.z).2.1):=fun e he=>by
     obtain ⟨s,hs,y,hy,rfl⟩:=q19g.1 he
     have hyb:=(hB _ (qz Trans.z hs)).2.1 y hy
     simp only
     rw [if_pos (by omega),if_neg (by omega),show M+s - M=s by omega,Int.toNat_of_nonneg hyb.1]
     constructor
     · intro h1; exact h s t hs ht ⟨y,hy,h1⟩
     · intro h1; rw [← h1]; exact hy
   have:=(q17e (x:=x.toNat) (y:=M+t) (S:=fun z=>if z < M then (z:Int)∈(ts.getD t Trans.z).2.1 else (ts.getD (z - M) Trans.z).2.1=(ts.getD t Trans.z).2.1) hS (by rw [hcd,hx2,hcr])).2 (by
     rw [if_neg (by omega),show M+t - M=t by omega])
   rw [if_pos hx1,Int.toNat_of_nonneg hx0] at this
   exact this
end
def cP (c:Nat→Nat) (R:List Nat):Nat→Nat:=fun z=>if c z∈R then 1 else 0
def cT (c:Nat→Nat) (M:Nat) (R:List Nat):Nat→Nat:=fun t=>if c (M+t)∈R then 1 else 0
theorem cP_le (c:Nat→Nat) (R:List Nat) (z:Nat):cP c R z≤1000:=by unfold cP; split<;>omega
theorem cT_le (c:Nat→Nat) (M:Nat) (R:List Nat) (z:Nat):cT c M R z≤1000:=by unfold cT; split<;>omega
section
variable {M:Nat} {ts:List Trans} (hM:M≤100) (hT:ts.length≤100) (hB:InB M ts) {c:Nat→Nat} (hcd:clsF (edA M false ts ts.length)=c)
include hM hT hB hcd
theorem q1ie (is:Bool) (a b:Int) :
   qdk is (outU c M (M+ts.length)) ((outU c M (M+ts.length)).length:Int) (M:Int) ts a b (true,0,pL M (cP c []),pL ts.length (cT c M [])) =
     some (.inl (freeC ts c M (rootsL c (M+ts.length)),pL M (cP c (rootsL c (M+ts.length))),pL ts.length (cT c M (rootsL c (M+ts.length))))):=by
 have hcl:∀ r,(Pr c M (M+ts.length) r).length≤1000:=fun r=>by have:=Pr_len c M (M+ts.length) r; omega
 have hctl:∀ r,(Tr c M (M+ts.length) r).length≤1000:=fun r=>by have:=Tr_len c M (M+ts.length) r; omega
 have hRl:=q11q c (M+ts.length)
 have hRn:(rootsL c (M+ts.length)).Nodup:=q127 (List.Pairwise.filter _ List.pairwise_lt_range)
 unfold outU
 generalize hR:rootsL c (M+ts.length)=R at hRl hRn
 have hlen:(R.map (cluU c M (M+ts.length))).length=R.length:=List.length_map _
 refine q12h (fun k=>(freeC ts c M (R.take k),(k:Int),pL M (cP c (R.take k)),pL ts.length (cT c M (R.take k)))) R.length (qc5 (by omega)) _ (fun k hk=>?_) ?_ _ ?_
 · obtain ⟨r,hr⟩:∃ r,R.getD k 0=r:=⟨_,rfl⟩
   have hg:(R.map (cluU c M (M+ts.length))).getD k St8.z=(cast (Pr c M (M+ts.length) r),cast (Tr c M (M+ts.length) r),()):=by
     rw [← q1ho,← qt1,List.getD_eq_getElem?_getD,List.getElem?_map,List.getElem?_eq_getElem hk,← hr,q8o R k 0 hk]
     rfl
   have hnot:=(q115 (f:=id) hRn hk).1
   rw [hr] at hnot
   have htk:=qcq R k 0 hk
   rw [hr] at htk
   have eP:pL M (addC (cP c (R.take k)) (Pr c M (M+ts.length) r))=pL M (cP c (R.take (k+1))):=by
     refine qfp fun z hz=>?_
     rw [htk]
     unfold addC cP
     by_cases e:c z=r
     · rw [if_pos (Pr_mem.2 ⟨hz,e⟩),if_neg (by rw [e]; exact hnot),if_pos (by rw [e]; simp)]
     · rw [if_neg (fun h=>e (Pr_mem.1 h).2)]
       by_cases e2:c z∈R.take k
       · rw [if_pos e2,if_pos (List.mem_append_left _ e2)]
       · rw [if_neg e2,if_neg (by simp only [List.mem_append,List.mem_singleton,not_or]; exact ⟨e2,e⟩)]
   have eT:pL ts.length (addC (cT c M (R.take k)) (Tr c M (M+ts.length) r))=pL ts.length (cT c M (R.take (k+1))):=by
     refine qfp fun z hz=>?_
     rw [htk]
     unfold addC cT
     by_cases e:c (M+z)=r
     · rw [if_pos (Tr_mem.2 ⟨hz,e⟩),if_neg (by rw [e]; exact hnot),if_pos (by rw [e]; simp)]
     · rw [if_neg (fun h=>e (Tr_mem.1 h).2)]
       by_cases e2:c (M+z)∈R.take k
       · rw [if_pos e2,if_pos (List.mem_append_left _ e2)]
       · rw [if_neg e2,if_neg (by simp only [List.mem_append,List.mem_singleton,not_or]; exact ⟨e2,e⟩)]
   have eF:freeC ts c M (R.take (k+1))=(freeC ts c M (R.take k)&&(Tr c M (M+ts.length) r).all fun z=>decide ((ts.getD z Trans.z).2.1=cast (Pr c M (M+ts.length) r))):=by
     unfold freeC
     rw [htk,List.all_append]
     simp only [List.all_cons,List.all_nil,Bool.and_true]
     rfl
   have h0:=fun x y d=>q1g7 hM is x (R.map (cluU c M (M+ts.length))) (R.length:Int) (k:Int) a b ts y d (cast (Tr c M (M+ts.length) r)) (q127 (Pr_asc c M (M+ts.length) r)) (fun z hz=>(Pr_mem.1 hz).1) (hcl r) (f:=cP c (R.take k)) (cP_le c _)
   have h1:=fun x y=>q1gs is (R.map (cluU c M (M+ts.length))) (R.length:Int) (k:Int) (M:Int) a b hT (fun t ht=>(hB t ht).1.1) y (cast (Pr c M (M+ts.length) r)) (cast (Tr c M (M+ts.length) r)) (by rw [List.length_map]; exact hcl r) (q127 (Tr_asc c M (M+ts.length) r)) (fun z hz=>(Tr_mem.1 hz).1) (hctl r)
     (fun z hz x hx=>by rw [← qt1]; exact in_pl hB hcd (Tr_mem.1 hz).1 (Tr_mem.1 hz).2 x hx) (f:=cT c M (R.take k)) (cT_le c M _) x
   simp only [eP] at h0
   simp only [eT] at h1
   have h2:=q1g9 hcd (r:=r)
   rw [eF]
   unfold q2v
   simp only [hlen]
   rw [bif_lt (by omega),ckB_ix (by omega) (by omega),ckB_ix (by omega) (by omega)]
   simp only [Int.toNat_natCast,hg]
   rw [h0]
   simp only [bnd_ok,lk_inl]
   rw [h1]
   simp only [bnd_ok,lk_inl]
   have hl1:(cast (Pr c M (M+ts.length) r)).length=(Pr c M (M+ts.length) r).length:=List.length_map _
   have hl2:(cast (Tr c M (M+ts.length) r)).length=(Tr c M (M+ts.length) r).length:=List.length_map _
   rw [hl1,hl2]
   by_cases e:1 < (Pr c M (M+ts.length) r).length
   · have h3:(Tr c M (M+ts.length) r).length≠0:=fun h=>h2 e (List.length_eq_zero_iff.1 h)
     simp (disch:=omega) only [qy,ckB_ix,qb,q9,qd,ckB_mk,ckB_ne,bif_lt,qe,bif_le,qc,bif_eq,qf,bif_ne,qh,qg,q8,q5,bnd_ok,lk_inl,lk_inr,Int.toNat_natCast,decide_true]
   · simp (disch:=omega) only [qy,ckB_ix,qb,q9,qd,ckB_mk,ckB_ne,bif_lt,qe,bif_le,qc,bif_eq,qf,bif_ne,qh,qg,q8,q5,bnd_ok,lk_inl,lk_inr,Int.toNat_natCast,decide_true]
 · rw [List.take_length]
   simp (disch:=omega) only [q2v,hlen,ckB_ix,qb,q9,qd,ckB_mk,ckB_ne,bif_lt,qe,bif_le,qc,bif_eq,qf,bif_ne,qh,qg,q8,q5,bnd_ok,lk_inl,lk_inr,Int.toNat_natCast,decide_true]
 · rfl
end
theorem q1gl {n:Net} (hv:validN n=true):∀ t∈n.2.1,t.2.1.Pairwise (· < ·):=by
 unfold validN at hv
 simp only [Bool.and_eq_true,decide_eq_true_eq,Bool.not_eq_true',List.any_eq_false] at hv
 obtain ⟨⟨⟨⟨⟨h1,h2⟩,h3⟩,h4⟩,h5⟩,h6⟩:=hv
 intro t ht
 have:=h4 t ht
 unfold badT at this
 simp only [Bool.or_eq_true,not_or,Bool.not_eq_true',Bool.not_eq_false] at this
 exact (q15u.1 this.1.2).2
theorem q1e0 {N:Nat} {f:Nat→Nat} (h:∀ z,z < N→f z=1):((pL N f).any fun k=>!decide (k=1))=false:=by
 rw [List.any_eq_false]
 intro x hx
 obtain ⟨z,hz,rfl⟩:=q1j1.1 hx
 rw [h z hz]
 simp
theorem quh (n:Net):q7q n=some true:=by
 unfold q7q
 rw [q1fo]
 obtain ⟨b,hb,hg⟩:=q1hk n
 simp only [bnd_ok,Bool.not_true,cond_false]
 rw [hb,bnd_ok]
 cases b with
 | true => rfl
 | false =>
   obtain ⟨hs,_,_⟩:=hg rfl
   rw [q1dj hs]
   cases hv:validN n with
   | false => rfl
   | true =>
     have k1:=q1fm hv hs
     obtain ⟨p1,p2,p3,_,_,hB⟩:=q16q hv hs
     have hasc:=q1gl hv
     unfold q80 qje
     rw [q1h6 hs,hv,q1i1 hs,k1]
     unfold cluN
     obtain ⟨m,ts,a,b,⟨⟩⟩:=n
     simp only at p1 p2 p3 hB hasc ⊢
     obtain ⟨M,rfl⟩:∃ M:Nat,m=(M:Int):=⟨m.toNat,by omega⟩
     simp only [Int.toNat_natCast] at hB ⊢
     have hcl:=fun c hcd is=>q1ie (c:=c) (by omega) (by omega) hB hcd is a b
     have hfr:=q1fz hB rfl hasc
     have hc:=q12n (edA M false ts ts.length)
     have hcl:=hcl _ rfl
     generalize clsF (edA M false ts ts.length)=c at hcl hfr hc
     have e1:List.replicate M (0:Int)=pL M (cP c []):=by
       rw [q19u]; exact qfp fun z _=>by simp [cP]
     have e2:List.replicate ts.length (0:Int)=pL ts.length (cT c M []):=by
       rw [q19u]; exact qfp fun z _=>by simp [cT]
     have f1:∀ z,z < M→cP c (rootsL c (M+ts.length)) z=1:=fun z hz=>by
       have:=hc.le z
       exact if_pos (qqi.2 ⟨by omega,hc.idem z⟩)
     have f2:∀ t,t < ts.length→cT c M (rootsL c (M+ts.length)) t=1:=fun t ht=>by
       have:=hc.le (M+t)
       exact if_pos (qqi.2 ⟨by omega,hc.idem _⟩)
     simp (disch:=omega) only [Bool.not_true,ckB_ix,qb,q9,qd,ckB_mk,ckB_ne,bif_lt,qe,bif_le,qc,bif_eq,qf,bif_ne,qh,qg,q8,q5,bnd_ok,lk_inl,lk_inr,Int.toNat_natCast,decide_true]
     rw [e1,e2,hcl]
     simp only [bnd_ok,lk_inl]
     rw [q1e1 _ (by rw [pL_len]; omega),q1e0 f1]
     simp only [bnd_ok,Bool.not_false,cond_true]
     rw [q1e1 _ (by rw [pL_len]; omega),q1e0 f2]
     simp only [bnd_ok,Bool.not_false,cond_true]
     rw [hfr]
     simp
end Go.Proofs.Ytclbndfjhjladaa
