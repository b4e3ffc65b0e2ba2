/-
  Flow: the reference's invariants; FlowInvariants.
-/
import Derived.Test.YthakmiiaejhlbaaZ8F7
set_option linter.all false
namespace Go.Proofs.Ythakmiiaejhlbaa
open Go.K Go.M
def LeL (a b:List Int):Prop:=ltL b a=false
theorem qzh {n:Net} (h:1≤n.1):GoodE n.1.toNat n.2.1.length n.2.1.length (AP n) (plE n):=qjz (qpx _ _ _) _ (Nat.le_refl _)
structure OutOK (n:Nat) (r:Rw×Int):Prop where
 len:r.1.length≤1000
 row:∀ x∈r.1,x.length=n∧∀ i,0≤x.getD i 0∧x.getD i 0≤1048576
 err:r.2≠0→r.1=[]
theorem q169 {n m c:Nat} {A:Nat→Nat→Int} {L:List RowE} (hG:GoodE n m c A L):OutOK n (resE (mdE L)):=by
 unfold resE
 cases h1:decide (1000 < (mdE L).length) with
 | true => exact ⟨Nat.zero_le _,fun x hx=>by simp at hx,fun _=>rfl⟩
 | false =>
   have hl:=of_decide_eq_false h1
   have hp:=qtp (mdE L)
   cases h2:(srt (mdE L)).any bigL with
   | true => exact ⟨Nat.zero_le _,fun x hx=>by simp at hx,fun _=>rfl⟩
   | false =>
     refine ⟨by show (srt (mdE L)).length≤1000; rw [hp.length_eq]; omega,fun x hx=>?_,fun h=>absurd rfl h⟩
     have hx:x∈srt (mdE L):=hx
     obtain ⟨r,hr,rfl⟩:=qsa.1 (hp.mem_iff.1 hx)
     have ho:=hG.row r hr
     refine ⟨ho.len,fun i=>?_⟩
     by_cases hi:i < r.2.length
     · refine ⟨ho.sol.1 i (by rw [← ho.len]; exact hi),?_⟩
       have:=List.any_eq_false.1 h2 r.2 hx
       unfold bigL at this
       rw [Bool.not_eq_true,List.any_eq_false] at this
       have:=this _ (qq 0 hi)
       simpa using this
     · rw [List.getD_eq_getElem?_getD,List.getElem?_eq_none (by omega)]
       exact ⟨Int.le_refl _,by show (0:Int)≤1048576; omega⟩
theorem qdd {n:Net}:OutOK n.1.toNat (outP n):=by
 unfold outP
 cases hv:validN n with
 | false => exact ⟨Nat.zero_le _,fun x hx=>by simp at hx,fun _=>rfl⟩
 | true =>
   cases largeB n with
   | true => exact ⟨Nat.zero_le _,fun x hx=>by simp at hx,fun _=>rfl⟩
   | false => exact q169 (qzh (qf8 hv).1)
end Go.Proofs.Ythakmiiaejhlbaa
