/-
  Freechoice: the closure; Is, Clusters and Close return what is specified.
-/
import Derived.Test.YtclbndfjhjladaaGreatZ3G7
set_option linter.all false
namespace Go.Proofs.YtclbndfjhjladaaGreat
open Go.K Go.M
def closeT (n:Net):Trans:=((⟨#[]⟩:ByteArray),[n.2.2.2.1],[n.2.2.1],())
def closeN (n:Net):Net:=(n.1,n.2.1++[closeT n],n.2.2.1,n.2.2.2.1,())
def zNet:Net:=(0,[],0,0,())
def closeO (n:Net) (w:Bool):Net×Int :=
 bif !validN n then (zNet,1) else bif !w then (zNet,19) else bif decide ((60:Int)≤(n.2.1.length:Int)) then (zNet,5) else (closeN n,0)
theorem q1l4 {n:Net} (h:Small n) (a b c d e f g i j:Int) (w v:List Trans):qrd n.2.1 (n.2.1.length:Int) a w b c d v e f g i j (0,[])=some (.inl n.2.1):=by
 have ht:=h.trans
 refine qh7 (fun q=>((q:Int),n.2.1.take q)) n.2.1.length (q24 (by omega)) _ (fun q hq=>?_) ?_ _ rfl
 · have h1:=h.ins _ (qv Trans.z hq)
   have h2:=h.outs _ (qv Trans.z hq)
   have hl:(n.2.1.take q).length≤100:=by rw [List.length_take]; omega
   rw [qh4 n.2.1 q Trans.z hq]
   simp (disch:=omega) only [q8p,q1ga (n.2.1.getD q Trans.z).2.1 (by omega),q1ga (n.2.1.getD q Trans.z).2.2.1 (by omega),qp,ckB_ix,qg,qc,qk,ckB_mk,ckB_ne,bif_lt,qf,bif_le,qh,bif_eq,qe,bif_ne,qj,qi,qb,qa,bnd_ok,lk_inl,lk_inr,Int.toNat_natCast,decide_true]
 · rw [List.take_length]
   simp (disch:=omega) only [q8p,ckB_ix,qg,qc,qk,ckB_mk,ckB_ne,bif_lt,qf,bif_le,qh,bif_eq,qe,bif_ne,qj,qi,qb,qa,bnd_ok,lk_inl,lk_inr,Int.toNat_natCast,decide_true]
theorem q1m0 {n:Net} (h:Small n) {w:Bool} (h1:q7x n=some w) (h2:q7y n=some w):q85 n=some (closeO n w)∧qqs n=some (closeO n w):=by
 have ht:=h.trans
 constructor
 · unfold q85 closeO
   rw [q18k h,h1]
   cases validN n with
   | false => rfl
   | true =>
     cases w with
     | false => rfl
     | true =>
       simp only [bnd_ok,Bool.not_true,cond_false]
       by_cases e:(60:Int)≤(n.2.1.length:Int)
       · rw [decide_eq_true e]; rfl
       · rw [decide_eq_false e]
         simp only [cond_false]
         rw [q1l4 h]
         simp (disch:=omega) only [ckB_ix,qg,qc,qk,ckB_mk,ckB_ne,bif_lt,qf,bif_le,qh,bif_eq,qe,bif_ne,qj,qi,qb,qa,bnd_ok,lk_inl,lk_inr,Int.toNat_natCast,decide_true]
         rfl
 · unfold qqs closeO
   rw [qx3 h,h2]
   cases validN n with
   | false => rfl
   | true =>
     cases w with
     | false => rfl
     | true =>
       simp only [bnd_ok,Bool.not_true,cond_false]
       by_cases e:(60:Int)≤(n.2.1.length:Int)
       · rw [decide_eq_true e]; rfl
       · rw [decide_eq_false e]
         simp only [cond_false]
         simp (disch:=omega) only [ckB_ix,qg,qc,qk,ckB_mk,ckB_ne,bif_lt,qf,bif_le,qh,bif_eq,qe,bif_ne,qj,qi,qb,qa,bnd_ok,lk_inl,lk_inr,Int.toNat_natCast,decide_true]
         rfl
theorem qqq (n:Net) (h:n.2.1.length≤1000) (hi:∀ t∈n.2.1,t.2.1.length≤1000∧t.2.2.1.length≤1000):qop n n=some true:=by
 have hL:q13h n.1 n.2.1 n.2.2.1 n.2.2.2.1 n.1 n.2.1 n.2.2.1 n.2.2.2.1 0=some (.inl ()):=by
   refine qh7 (fun q=>(q:Int)) n.2.1.length (q24 (by omega)) _ (fun q hq=>?_) ?_ _ rfl
   · obtain ⟨l1,l2⟩:=hi _ (qv Trans.z hq)
     simp (disch:=omega) only [ql2,qh6 (n.2.1.getD q Trans.z).2.1 (n.2.1.getD q Trans.z).2.1 (by omega),qh6 (n.2.1.getD q Trans.z).2.2.1 (n.2.1.getD q Trans.z).2.2.1 (by omega),BEq.rfl,qp,ckB_ix,qg,qc,qk,ckB_mk,ckB_ne,bif_lt,qf,bif_le,qh,bif_eq,qe,bif_ne,qj,qi,qb,qa,bnd_ok,lk_inl,lk_inr,Int.toNat_natCast,decide_true]
   · simp (disch:=omega) only [ql2,ckB_ix,qg,qc,qk,ckB_mk,ckB_ne,bif_lt,qf,bif_le,qh,bif_eq,qe,bif_ne,qj,qi,qb,qa,bnd_ok,lk_inl,lk_inr,Int.toNat_natCast,decide_true]
 unfold qop
 simp (disch:=omega) only [hL,ckB_ix,qg,qc,qk,ckB_mk,ckB_ne,bif_lt,qf,bif_le,qh,bif_eq,qe,bif_ne,qj,qi,qb,qa,bnd_ok,lk_inl,lk_inr,Int.toNat_natCast,decide_true]
theorem q1i1 (l:List Clu) (h:l.length≤1000) (hi:∀ x∈l,x.1.length≤1000∧x.2.1.length≤1000):qoa l l=some true:=by
 have hL:q133 l l 0=some (.inl ()):=by
   refine qh7 (fun q=>(q:Int)) l.length (q24 (by omega)) _ (fun q hq=>?_) ?_ _ rfl
   · obtain ⟨l1,l2⟩:=hi _ (qv q0.z hq)
     simp (disch:=omega) only [ql4,qh6 (l.getD q q0.z).1 (l.getD q q0.z).1 (by omega),qh6 (l.getD q q0.z).2.1 (l.getD q q0.z).2.1 (by omega),qp,ckB_ix,qg,qc,qk,ckB_mk,ckB_ne,bif_lt,qf,bif_le,qh,bif_eq,qe,bif_ne,qj,qi,qb,qa,bnd_ok,lk_inl,lk_inr,Int.toNat_natCast,decide_true]
   · simp (disch:=omega) only [ql4,ckB_ix,qg,qc,qk,ckB_mk,ckB_ne,bif_lt,qf,bif_le,qh,bif_eq,qe,bif_ne,qj,qi,qb,qa,bnd_ok,lk_inl,lk_inr,Int.toNat_natCast,decide_true]
 unfold qoa
 simp (disch:=omega) only [hL,ckB_ix,qg,qc,qk,ckB_mk,ckB_ne,bif_lt,qf,bif_le,qh,bif_eq,qe,bif_ne,qj,qi,qb,qa,bnd_ok,lk_inl,lk_inr,Int.toNat_natCast,decide_true]
theorem q1jl (c:Nat→Nat) (M N:Nat) (hN:N≤1000):(outU c M N).length≤1000∧∀ x∈outU c M N,x.1.length≤1000∧x.2.1.length≤1000:=by
 unfold outU
 have:=qvw c N
 refine ⟨by rw [List.length_map]; omega,fun x hx=>?_⟩
 obtain ⟨r,_,rfl⟩:=List.mem_map.1 hx
 obtain ⟨h1,h2⟩:=q17z c M N r
 omega
theorem q1mg {n:Net} (h:Small n):q34 n=some (freeN n.2.1):=q1la (ts:=n.2.1) h.trans h.ins n.1 n.2.2.1 n.2.2.2.1
theorem Is_n {n:Net} (h:Small n):quu n=some (freeN n.2.1):=Is_eq (ts:=n.2.1) h.trans h.ins n.1 n.2.2.1 n.2.2.2.1
def cluN (n:Net):List Clu:=outU (clsF (edA n.1.toNat false n.2.1 n.2.1.length)) n.1.toNat (n.1.toNat+n.2.1.length)
theorem q1jf {n:Net} (hv:validN n=true) (h:Small n):q3g n=some (cluN n)∧qc8 n=some (cluN n):=by
 obtain ⟨p1,p2,p3,_,_,hB⟩:=qst hv h
 have e:((n.1.toNat:Nat):Int)=n.1:=Int.toNat_of_nonneg (by omega)
 have h1:=q1hm (M:=n.1.toNat) (ts:=n.2.1) (by omega) (by omega) hB n.2.2.1 n.2.2.2.1
 have h2:=q1d6 (M:=n.1.toNat) (ts:=n.2.1) (by omega) (by omega) hB n.2.2.1 n.2.2.2.1
 rw [e] at h1 h2
 exact ⟨h1,h2⟩
theorem q1gd {n:Net} (h:Small n) (hl:n.2.1.length < 60):Small (closeN n):=by
 refine ⟨by show (n.2.1++[closeT n]).length≤100; rw [List.length_append]; simp; omega,fun t ht=>?_,fun t ht=>?_⟩
 · rcases List.mem_append.1 (show t∈n.2.1++[closeT n] from ht) with ht | ht
   · exact h.ins t ht
   · rw [List.mem_singleton.1 ht]; simp [closeT]
 · rcases List.mem_append.1 (show t∈n.2.1++[closeT n] from ht) with ht | ht
   · exact h.outs t ht
   · rw [List.mem_singleton.1 ht]; simp [closeT]
theorem q106 (n:Net):qcq n=some true:=by
 unfold qcq
 rw [q1jy]
 obtain ⟨b,hb,hg⟩:=q1md n
 simp only [bnd_ok,Bool.not_true,cond_false]
 rw [hb,bnd_ok]
 cases b with
 | true => rfl
 | false =>
   obtain ⟨hs,_,_⟩:=hg rfl
   obtain ⟨w,hw1,hw2,hw3⟩:=q1i9 hs
   obtain ⟨hc1,hc2⟩:=q1m0 hs hw1 hw2
   have hsame:qop (closeO n w).1 (closeO n w).1=some true:=by
     unfold closeO
     cases hv:validN n with
     | false => exact qqq zNet (by simp [zNet]) (fun t ht=>by cases ht)
     | true =>
       cases w with
       | false => exact qqq zNet (by simp [zNet]) (fun t ht=>by cases ht)
       | true =>
         simp only [Bool.not_true,cond_false]
         by_cases e:(60:Int)≤(n.2.1.length:Int)
         · rw [decide_eq_true e]; exact qqq zNet (by simp [zNet]) (fun t ht=>by cases ht)
         · rw [decide_eq_false e]
           have hcs:=q1gd hs (by omega)
           exact qqq (closeN n) (by have:=hcs.trans; omega) (fun t ht=>⟨by have:=hcs.ins t ht; omega,by have:=hcs.outs t ht; omega⟩)
   unfold qky q8o
   rw [q18k hs,qx3 hs,q1mg hs,Is_n hs]
   cases hv:validN n with
   | false =>
     simp only [bnd_ok,Bool.not_false,cond_true,cond_false]
     rw [hc1,hc2]
     simp only [bnd_ok]
     rw [hsame]
     simp (disch:=omega) only [ckB_ix,qg,qc,qk,ckB_mk,ckB_ne,bif_lt,qf,bif_le,qh,bif_eq,qe,bif_ne,qj,qi,qb,qa,bnd_ok,lk_inl,lk_inr,Int.toNat_natCast,decide_true]
     rfl
   | true =>
     obtain ⟨k1,k2⟩:=q1jf hv hs
     obtain ⟨p1,p2,p3,_,_,hB⟩:=qst hv hs
     obtain ⟨s1,s2⟩:=q1jl (clsF (edA n.1.toNat false n.2.1 n.2.1.length)) n.1.toNat (n.1.toNat+n.2.1.length) (by omega)
     have hsc:qoa (cluN n) (cluN n)=some true:=q1i1 _ s1 s2
     simp only [bnd_ok,Bool.not_true,cond_true,cond_false]
     rw [k1,hc1,hc2]
     simp only [bnd_ok]
     rw [hsame,k2]
     simp only [bnd_ok]
     rw [hsc]
     simp (disch:=omega) only [BEq.rfl,ckB_ix,qg,qc,qk,ckB_mk,ckB_ne,bif_lt,qf,bif_le,qh,bif_eq,qe,bif_ne,qj,qi,qb,qa,bnd_ok,lk_inl,lk_inr,Int.toNat_natCast,decide_true]
end Go.Proofs.YtclbndfjhjladaaGreat
