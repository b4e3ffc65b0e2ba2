/-
  Flow: the reference's invariants; FlowInvariants.
-/
import Derived.Test.YthakmiiaejhlbaaZ7F7
set_option linter.all false
namespace Go.Proofs.Ythakmiiaejhlbaa
open Go.K Go.M
def LeL (a b:List Int):Prop:=ltL b a=false
theorem srt_of {out d:Rw} (hp:out.Perm d) (hs:out.Pairwise LeL):out=srt d:=by
 refine List.Perm.eq_of_pairwise (le:=fun x y=>(!ltL y x)=true) ?_ ?_ ?_ (hp.trans (List.mergeSort_perm _ _).symm)
 · intro a b _ _ h1 h2
   simp only [Bool.not_eq_true'] at h1 h2
   exact qol a b h2 h1
 · exact hs.imp fun h=>by rw [Bool.not_eq_true']; exact h
 · refine List.pairwise_mergeSort ?_ ?_ d
   · intro a b c h1 h2
     rw [Bool.not_eq_true'] at h1 h2 ⊢
     exact qa7.ntrans _ _ _ h2 h1
   · intro a b
     cases h1:ltL b a with
     | false => rfl
     | true =>
       cases h2:ltL a b with
       | false => rfl
       | true =>
         have:=qja _ _ _ h1 h2
         rw [qtc] at this
         cases this
theorem qqo {n:Net} (h:1≤n.1):GoodE n.1.toNat n.2.1.length n.2.1.length (AP n) (plE n):=qgo (qkd _ _ _) _ (Nat.le_refl _)
theorem qq7 (n:Net):GoodE n.2.1.length n.1.toNat n.1.toNat (AT n) (trE n):=qgo (qkd _ _ _) _ (Nat.le_refl _)
structure OutOK (n:Nat) (r:Rw×Int):Prop where
 len:r.1.length≤1000
 row:∀ x∈r.1,x.length=n∧∀ i,0≤x.getD i 0∧x.getD i 0≤1048576
 err:r.2≠0→r.1=[]
theorem q12j {n m c:Nat} {A:Nat→Nat→Int} {L:List RowE} (hG:GoodE n m c A L):OutOK n (resE (mdE L)):=by
 unfold resE
 cases h1:decide (1000 < (mdE L).length) with
 | true => exact ⟨Nat.zero_le _,fun x hx=>by simp at hx,fun _=>rfl⟩
 | false =>
   have hl:=of_decide_eq_false h1
   have hp:=qpu (mdE L)
   cases h2:(srt (mdE L)).any bigL with
   | true => exact ⟨Nat.zero_le _,fun x hx=>by simp at hx,fun _=>rfl⟩
   | false =>
     refine ⟨by show (srt (mdE L)).length≤1000; rw [hp.length_eq]; omega,fun x hx=>?_,fun h=>absurd rfl h⟩
     have hx:x∈srt (mdE L):=hx
     obtain ⟨r,hr,rfl⟩:=qfc.1 (hp.mem_iff.1 hx)
     have ho:=hG.row r hr
     refine ⟨ho.len,fun i=>?_⟩
     by_cases hi:i < r.2.length
     · refine ⟨ho.sol.1 i (by rw [← ho.len]; exact hi),?_⟩
       have:=List.any_eq_false.1 h2 r.2 hx
       unfold bigL at this
       rw [Bool.not_eq_true,List.any_eq_false] at this
       have:=this _ (qq 0 hi)
       simpa using this
     · rw [List.getD_eq_getElem?_getD,List.getElem?_eq_none (by omega)]
       exact ⟨Int.le_refl _,by show (0:Int)≤1048576; omega⟩
theorem q13m {n:Net}:OutOK n.1.toNat (outP n):=by
 unfold outP
 cases hv:validN n with
 | false => exact ⟨Nat.zero_le _,fun x hx=>by simp at hx,fun _=>rfl⟩
 | true =>
   cases largeB n with
   | true => exact ⟨Nat.zero_le _,fun x hx=>by simp at hx,fun _=>rfl⟩
   | false => exact q12j (qqo (qcn hv).1)
theorem q12w {n:Net}:OutOK n.2.1.length (outT n):=by
 unfold outT
 cases hv:validN n with
 | false => exact ⟨Nat.zero_le _,fun x hx=>by simp at hx,fun _=>rfl⟩
 | true =>
   cases largeB n with
   | true => exact ⟨Nat.zero_le _,fun x hx=>by simp at hx,fun _=>rfl⟩
   | false => exact q12j (qq7 n)
theorem qyq (l:Rw) (hl:l.length≤1000000) (h:∀ x∈l,x.length≤1000000):qba l l=some true:=by
 have hL:qs5 l l 0=some (.inl ()):=by
   refine q1l (fun i:Nat=>(i:Int)) l.length (q14 (by omega)) _ (fun i hi=>?_) ?_ _ rfl
   · have hx:=h _ (qq [] hi)
     have h0:qrx l l (i:Int) 0=some (.inl ()):=by
       refine q1l (fun k:Nat=>(k:Int)) (l.getD i []).length (q14 (by omega)) _ (fun k hk=>?_) ?_ _ rfl
       · have d:(!decide ((l.getD i []).getD k 0=(l.getD i []).getD k 0))=false:=by simp
         simp (disch:=omega) only [qep,d,ckB_ix,q6,q5,qb,ckB_mk,ckB_ne,bif_lt,q9,bif_le,qa,bif_eq,qc,bif_ne,q7,q8,q4,q0,bnd_ok,lk_inl,lk_inr,Int.toNat_natCast,decide_true]
         rw [qg]
       · simp (disch:=omega) only [qep,ckB_ix,q6,q5,qb,ckB_mk,ckB_ne,bif_lt,q9,bif_le,qa,bif_eq,qc,bif_ne,q7,q8,q4,q0,bnd_ok,lk_inl,lk_inr,Int.toNat_natCast,decide_true]
     have d:(!decide (((l.getD i []).length:Int)=((l.getD i []).length:Int)))=false:=by simp
     simp (disch:=omega) only [qen,d,h0,ckB_ix,q6,q5,qb,ckB_mk,ckB_ne,bif_lt,q9,bif_le,qa,bif_eq,qc,bif_ne,q7,q8,q4,q0,bnd_ok,lk_inl,lk_inr,Int.toNat_natCast,decide_true]
     rw [qg]
   · simp (disch:=omega) only [qen,ckB_ix,q6,q5,qb,ckB_mk,ckB_ne,bif_lt,q9,bif_le,qa,bif_eq,qc,bif_ne,q7,q8,q4,q0,bnd_ok,lk_inl,lk_inr,Int.toNat_natCast,decide_true]
 have d:(!decide ((l.length:Int)=(l.length:Int)))=false:=by simp
 unfold qba
 rw [d,hL]; rfl
end Go.Proofs.Ythakmiiaejhlbaa
