/-
  Migrate: which nets are great.
-/
import Derived.Test.YtdhfhpdadbopkaaGreatZ3W7
set_option linter.all false
namespace Go.Proofs.YtdhfhpdadbopkaaGreat
open Go.K Go.M
structure Tiny (n : a7) : Prop where
 small : Small n
 trans : n.2.1.length ≤ 8 ∨ 60 < n.2.1.length
 places : n.1 ≤ 8 ∨ 40 < n.1
 labels : ∀ t ∈ n.2.1, t.1.size ≤ 200
theorem q96(n:a7):∃b,qbx n=some b∧(b=false→Tiny n):=by
 have h1:∀t:af,qa9 t=some (decide ((50:Int)<(t.2.1.length:Int))||decide ((50:Int)<(t.2.2.1.length:Int))||decide ((200:Int)<(t.1.size:Int))):=fun t=>by
  unfold qa9;cases decide ((50:Int)<(t.2.1.length:Int))<;>cases decide ((50:Int)<(t.2.2.1.length:Int))<;>rfl
 have hC:n.2.1.length≤100→bj n.2.1=some (n.2.1.any fun t=>decide ((50:Int)<(t.2.1.length:Int))||decide ((50:Int)<(t.2.2.1.length:Int))||decide ((200:Int)<(t.1.size:Int))):=fun hl=>by
  have hL:iw n.2.1 (n.2.1.length:Int) 0=some (qq8 (fun i=>(i:Int)) (nj (fun t:af=>decide ((50:Int)<(t.2.1.length:Int))||decide ((50:Int)<(t.2.2.1.length:Int))||decide ((200:Int)<(t.1.size:Int))) n.2.1)):=by
   refine l9 n.2.1 af.z (fun t:af=>decide ((50:Int)<(t.2.1.length:Int))||decide ((50:Int)<(t.2.2.1.length:Int))||decide ((200:Int)<(t.1.size:Int))) (fun i=>(i:Int)) (by omega) (fun i hi=> ?_) ?_
   ·simp(disch:=omega)only[cx,h1,rs];rw[ai];exact qe4
   ·simp(disch:=omega)only[cx,rs]
  unfold bj eu;rw[hL,ah,yc,ah,qdb]
 have hF:n.2.1.length≤100→(n.2.1.length≤8∨60<n.2.1.length)→(n.1≤8∨40<n.1)→(n.2.1.any fun t=>decide ((50:Int)<(t.2.1.length:Int))||decide ((50:Int)<(t.2.2.1.length:Int))||decide ((200:Int)<(t.1.size:Int)))=false→Tiny n:=fun hl ht hp ha=>by
  have key:∀t∈n.2.1,t.2.1.length≤50∧t.2.2.1.length≤50∧t.1.size≤200:=fun t ht=>by
   have:=List.any_eq_false.1 ha t ht;simp only[Bool.or_eq_true,decide_eq_true_eq,not_or]at this;omega
  exact⟨⟨by omega,fun t ht=>by have:=(key t ht).1;omega,fun t ht=>by have:=(key t ht).2.1;omega⟩,ht,hp,fun t ht=>(key t ht).2.2⟩
 unfold qbx;by_cases c1:(8:Int)<(n.2.1.length:Int)
 ·by_cases c2:(n.2.1.length:Int)≤60
  ·exact⟨true,by simp(disch:=omega)only[rs],fun h=>by cases h⟩
  ·by_cases c3:(100:Int)<(n.2.1.length:Int)
   ·exact⟨true,by simp(disch:=omega)only[rs],fun h=>by cases h⟩
   ·have hl:n.2.1.length≤100:=by omega
    by_cases c4:(8:Int)<n.1
    ·by_cases c5:n.1≤40
     ·exact⟨true,by simp(disch:=omega)only[rs],fun h=>by cases h⟩
     ·exact⟨_,by simp(disch:=omega)only[hC hl,rs],hF hl (by omega) (by omega)⟩
    ·exact⟨_,by simp(disch:=omega)only[hC hl,rs],hF hl (by omega) (by omega)⟩
 ·have hl:n.2.1.length≤100:=by omega
  have c3:¬(100:Int)<(n.2.1.length:Int):=by omega
  by_cases c4:(8:Int)<n.1
  ·by_cases c5:n.1≤40
   ·exact⟨true,by simp(disch:=omega)only[rs],fun h=>by cases h⟩
   ·exact⟨_,by simp(disch:=omega)only[hC hl,rs],hF hl (by omega) (by omega)⟩
  ·exact⟨_,by simp(disch:=omega)only[hC hl,rs],hF hl (by omega) (by omega)⟩
end Go.Proofs.YtdhfhpdadbopkaaGreat
