/-
  Predict: Bounds and Ways.
-/
import Derived.Test.YtokeielgplbdeaaZ3C9
set_option linter.all false
namespace Go.Proofs.Ytokeielgplbdeaa
open Go.K Go.M
theorem jjj{n:cx}{m:List Int}{ts:List af}(h:Few n m ts):Small n∧n.2.1.length≤20∧m.length≤1000∧ts.length≤1000:=⟨h.small,by have:=h.trans;omega,by have:=h.mark;omega,by have:=h.times;omega⟩
theorem q8j{n:cx}{m:List Int}{ts:List af}{most:Int}(h:Few n m ts)(hmost:¬(100<most∧most≤2000)):lu m ts most n.1 n.2.1 n.2.2.1 n.2.2.2.1=some (.inr true):=by
 obtain⟨h1,h2,h3,h4⟩:=jjj h;have hr:=res h1 h2 h3 h4 hmost;obtain⟨e,l,a1,a2,a3⟩:=q87 hr;obtain⟨f,k,b1,b2,b3⟩:=qys hr;obtain⟨i,o,c1,c2,c3⟩:=qyi h1 h2 h3 hmost;have e1:bh l l=some true:=by rw[qlu l l (by omega),decide_eq_true rfl]
 have e2:bh k k=some true:=by rw[qlu k k (by omega),decide_eq_true rfl]
 have e3:bh o o=some true:=by rw[qlu o o (by omega),decide_eq_true rfl]
 unfold lu;simp(disch:=omega)only[o5,a1,a2,b1,b2,c1,c2,e1,e2,e3,rs]
theorem jtt(n:cx)(m:List Int)(ts:List af)(most:Int):su n m ts most=some true:=by
 obtain⟨b,hb,hf⟩:=jji n m ts;unfold su;cases b with
 |false=>
  simp(disch:=omega)only[ql0,hb,Bool.not_true,Bool.not_false,rs]
 |true=>
  by_cases h1:60<most
  ·by_cases h2:most≤2000
   ·simp(disch:=omega)only[ql0,hb,Bool.not_true,Bool.not_false,rs]
   ·have h3:=q8j (most:=most) (hf rfl) (by omega);simp(disch:=omega)only[ql0,hb,h3,Bool.not_true,Bool.not_false,rs]
  ·have h3:=q8j (most:=most) (hf rfl) (by omega);simp(disch:=omega)only[ql0,hb,h3,Bool.not_true,Bool.not_false,rs]
end Go.Proofs.Ytokeielgplbdeaa
