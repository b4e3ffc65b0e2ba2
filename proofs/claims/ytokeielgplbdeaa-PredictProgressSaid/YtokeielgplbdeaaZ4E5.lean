/-
  Predict: Ends.
-/
import Derived.Test.YtokeielgplbdeaaZ4E4
set_option linter.all false
namespace Go.Proofs.Ytokeielgplbdeaa
open Go.K Go.M
theorem qyx{n:c8}(h:Small n){m:List Int}{most:Int}{σ:ox}{N g:Nat}{nE:List Eg}{c:Mk}(hG:GG n m most.toNat σ N g nE c)(hv:db n=true)(h1:ao n m most=some (gEs c nE,(g:Int),(N:Int),0))(hr:∃x,ax (gEs c nE) (g:Int) (N:Int)=some (x,true)):ea n m most=some (0,ru (oz c nE) g n.2.1.length):=by
 have hV:=qgb h;have htr:=hG.tr;rw[hv]at hV;obtain⟨x,hx⟩:=hr;have hL1:=qrr hG n.2.1.length (by omega);unfold ea;simp(disch:=omega)only[hV,h1,hx,hL1,Bool.not_true,rs]
theorem jax{n:c8}{m:List Int}{M:Nat}{σ:ox}{N g:Nat}{nE:List Eg}{c:Mk}(h:GG n m M σ N g nE c){x:Int}(hx:x∈ru (oz c nE) g n.2.1.length){l:List Eg}(hl:sw (fun e=>e∈nE) 0 l g):x∈qs9 l:=by
 obtain⟨t,rfl,ht,hno⟩:=qmu.1 hx;refine Classical.byContradiction fun hn=>hno ?_
 have h1:=(h.path hl h.cg).1;have key:∀(l:List Eg) (i j:Nat),sw (fun e=>e∈oz c nE) i l j→(∀e∈l,¬e.2.2=t)→sw (EN t (oz c nE)) i l j:=fun l=>by
  induction l with
  |nil=>intro i j h _;exact h
  |cons e l ih=>exact fun i j ⟨a1,a2,a3⟩ h=>⟨a1,⟨a2,h e List.mem_cons_self⟩,ih _ _ a3 fun e' he' =>h e' (List.mem_cons_of_mem _ he')⟩
 exact⟨l,key l 0 g h1 fun e he het=>hn (List.mem_map.2 ⟨e,he,by rw[het]⟩)⟩
theorem jha{l:List Int}(hl:l.length≤1000000){x:Int}(h:x∈l):f8 l x=some true:=by
 rw[qxc l hl x];congr 1;unfold jkj;exact List.any_eq_true.2 ⟨x,h,decide_eq_true rfl⟩
theorem ja1{n:c8}{m:List Int}{M:Nat}{σ:ox}{N g:Nat}{nE:List Eg}{c:Mk}(h:GG n m M σ N g nE c){ts:List af}(ho:¬Op ts (oz c nE)){l:List Eg}(hl:sw (fun e=>e∈nE) 0 l g):qmf ts l=false:=by
 unfold qmf;refine List.any_eq_false.2 fun e he hop=>ho ((h.op ts).2 ⟨e,(yn hl e he).1,(h.leads _).2 (yn hl e he).2.2, .inl hop⟩)
end Go.Proofs.Ytokeielgplbdeaa
