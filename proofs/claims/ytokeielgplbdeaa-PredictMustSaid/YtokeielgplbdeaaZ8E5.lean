/-
  Predict: Ends.
-/
import Derived.Test.YtokeielgplbdeaaZ8E4
set_option linter.all false
namespace Go.Proofs.Ytokeielgplbdeaa
open Go.K Go.M
theorem jdv{n:cj}{m:List Int}{M:Nat}{σ:pb}{N g:Nat}{nE:List Eg}{c:Mk}(h:GG n m M σ N g nE c){x:Int}(hx:x∈o7 (ov c nE) g n.2.1.length){l:List Eg}(hl:tj (fun e=>e∈nE) 0 l g):x∈jkk l:=by
 obtain⟨t,rfl,ht,hno⟩:=qnx.1 hx;refine Classical.byContradiction fun hn=>hno ?_
 have h1:=(h.path hl h.cg).1;have key:∀(l:List Eg) (i j:Nat),tj (fun e=>e∈ov c nE) i l j→(∀e∈l,¬e.2.2=t)→tj (EN t (ov c nE)) i l j:=fun l=>by
  induction l with
  |nil=>intro i j h _;exact h
  |cons e l ih=>exact fun i j ⟨a1,a2,a3⟩ h=>⟨a1,⟨a2,h e List.mem_cons_self⟩,ih _ _ a3 fun e' he' =>h e' (List.mem_cons_of_mem _ he')⟩
 exact⟨l,key l 0 g h1 fun e he het=>hn (List.mem_map.2 ⟨e,he,by rw[het]⟩)⟩
theorem jdz{n:cj}{m:List Int}{M:Nat}{σ:pb}{N g:Nat}{nE:List Eg}{c:Mk}(h:GG n m M σ N g nE c){ts:List af}(ho:¬Op ts (ov c nE)){l:List Eg}(hl:tj (fun e=>e∈nE) 0 l g):jk0 ts l=false:=by
 unfold jk0;refine List.any_eq_false.2 fun e he hop=>ho ((h.op ts).2 ⟨e,(y7 hl e he).1,(h.leads _).2 (y7 hl e he).2.2, .inl hop⟩)
end Go.Proofs.Ytokeielgplbdeaa
