/-
  Predict: Bounds and Ways.
-/
import Derived.Test.YtokeielgplbdeaaZ7C9
set_option linter.all false
namespace Go.Proofs.Ytokeielgplbdeaa
open Go.K Go.M
theorem jiq{n:cz}{m:List Int}{ts:List af}(h:Few n m ts):Small n∧n.2.1.length≤20∧m.length≤1000∧ts.length≤1000:=⟨h.small,by have:=h.trans;omega,by have:=h.mark;omega,by have:=h.times;omega⟩
theorem qwv{n:cz}{m:List Int}{ts:List af}{most:Int}(h:Few n m ts)(hmost:¬(100<most∧most≤2000))(limit:Int):j8 m ts limit most n.1 n.2.1 n.2.2.1 n.2.2.2.1=some (.inr true):=by
 obtain⟨h1,h2,h3,h4⟩:=jiq h;obtain⟨B,e,a1,a2,_⟩:=qm4 (res h1 h2 h3 h4 hmost);obtain⟨C,f,b1,b2⟩:=q5d h1 h2 h3 hmost;obtain⟨x,i,c1,c2⟩:=q8q h1 h2 h3 h4 hmost limit;unfold j8;simp(disch:=omega)only[m7,a1,a2,b1,b2,c1,c2,rs];generalize B.2.2.1=p;generalize C.2.2.1=q;cases p<;>cases q<;>rfl
theorem js0(n:cz)(m:List Int)(ts:List af)(limit most:Int):p4 n m ts limit most=some true:=by
 obtain⟨b,hb,hf⟩:=jip n m ts;unfold p4;cases b with
 |false=>
  simp(disch:=omega)only[qk1,hb,Bool.not_true,Bool.not_false,rs]
 |true=>
  by_cases h1:60<most
  ·by_cases h2:most≤2000
   ·simp(disch:=omega)only[qk1,hb,Bool.not_true,Bool.not_false,rs]
   ·have h3:=qwv (most:=most) (hf rfl) (by omega) limit;simp(disch:=omega)only[qk1,hb,h3,Bool.not_true,Bool.not_false,rs]
  ·have h3:=qwv (most:=most) (hf rfl) (by omega) limit;simp(disch:=omega)only[qk1,hb,h3,Bool.not_true,Bool.not_false,rs]
end Go.Proofs.Ytokeielgplbdeaa
