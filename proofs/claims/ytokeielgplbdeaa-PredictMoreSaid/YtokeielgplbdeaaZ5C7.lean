/-
  Predict: Steps and Late of program and reference agree.
-/
import Derived.Test.YtokeielgplbdeaaZ5C6
set_option linter.all false
namespace Go.Proofs.Ytokeielgplbdeaa
open Go.K Go.M
abbrev qp6(T:Nat):List af:=List.replicate T (1,1,false,())
theorem q68:∀T:Nat,T≤20→qqs (T:Int)=some (qp6 T)
 |0,_=>by kernel_rfl
 |1,_=>by kernel_rfl
 |2,_=>by kernel_rfl
 |3,_=>by kernel_rfl
 |4,_=>by kernel_rfl
 |5,_=>by kernel_rfl
 |6,_=>by kernel_rfl
 |7,_=>by kernel_rfl
 |8,_=>by kernel_rfl
 |9,_=>by kernel_rfl
 |10,_=>by kernel_rfl
 |11,_=>by kernel_rfl
 |12,_=>by kernel_rfl
 |13,_=>by kernel_rfl
 |14,_=>by kernel_rfl
 |15,_=>by kernel_rfl
 |16,_=>by kernel_rfl
 |17,_=>by kernel_rfl
 |18,_=>by kernel_rfl
 |19,_=>by kernel_rfl
 |20,_=>by kernel_rfl
 |n+21,h=>absurd h (by omega)
theorem qzw(T:Nat):cq (qp6 T) T=true:=by
 unfold cq;rw[List.length_replicate,decide_eq_true rfl,Bool.true_and,Bool.not_eq_true'];refine List.any_eq_false.2 fun x hx=> ?_
 rw[(List.mem_replicate.1 hx).2]
 decide
theorem q3q{n:dr}(h:Small n)(htr:n.2.1.length≤20){m:List Int}(hl:m.length≤1000){ts:List af}(hts:ts.length≤1000){most:Int}(hmost:¬(100<most∧most≤2000))(limit:Int):∃x e,jr n m ts limit most=some (x,e)∧qqr n m ts limit most=some (x,e):=by
 have hE:=oq h m (by omega);have hV:=z4 h;have hK:=qj n m (by omega);have hT:=qmd (n:=n) (ts:=ts) (by omega);have hRT:=mr (ts:=ts) (by omega) n.2.1.length;obtain⟨B,e,e1,e2,e3⟩:=qqx (res h htr hl hts hmost);unfold jr qqr;cases hv:em n with
 |false=>
  rw[hv]at hE hV;refine⟨0,1,?_,?_⟩
  ·simp(disch:=omega)only[hE,Bool.false_and,rs]
  ·simp(disch:=omega)only[hV,Bool.not_false,rs]
 |true=>
  rw[hv,Bool.true_and]at hE;rw[hv]at hV;cases hm:dg n.1 m with
  |false=>
   rw[hm]at hE hK;refine⟨0,1,?_,?_⟩
   ·simp(disch:=omega)only[hE,rs]
   ·simp(disch:=omega)only[hV,hK,Bool.not_true,Bool.not_false,rs]
  |true=>
   rw[hm]at hE hK;cases ht:cq ts n.2.1.length with
   |false=>
    rw[ht]at hT hRT;refine⟨0,1,?_,?_⟩
    ·simp(disch:=omega)only[hE,hT,Bool.not_false,rs]
    ·simp(disch:=omega)only[hV,hK,hRT,Bool.not_true,Bool.not_false,rs]
   |true=>
    rw[ht]at hT hRT;by_cases hl0:limit<0
    ·refine⟨0,2,?_,?_⟩
     ·simp(disch:=omega)only[hE,hT,Bool.not_true,rs]
     ·simp(disch:=omega)only[hV,hK,hRT,Bool.not_true,rs]
    ·by_cases hl1:1099511627776<limit
     ·refine⟨0,2,?_,?_⟩
      ·simp(disch:=omega)only[hE,hT,Bool.not_true,rs]
      ·simp(disch:=omega)only[hV,hK,hRT,Bool.not_true,rs]
     ·by_cases he:e=0
      ·have e3:=e3 he;subst he;obtain⟨bl,bg,bo,⟨⟩⟩:=B;cases bo with
       |true=>
        by_cases hlt:limit<bl
        ·refine⟨2,0,?_,?_⟩
         ·simp(disch:=omega)only[hE,hT,e1,Bool.not_true,rs]
         ·simp(disch:=omega)only[hV,hK,hRT,e2,Bool.not_true,rs]
        ·refine⟨1,0,?_,?_⟩
         ·simp(disch:=omega)only[hE,hT,e1,Bool.not_true,rs]
         ·simp(disch:=omega)only[hV,hK,hRT,e2,Bool.not_true,rs]
       |false=>
        have e3:bl≤bg:=e3 rfl rfl;by_cases hlt:limit<bl
        ·refine⟨2,0,?_,?_⟩
         ·simp(disch:=omega)only[hE,hT,e1,Bool.not_true,Bool.not_false,rs]
         ·simp(disch:=omega)only[hV,hK,hRT,e2,Bool.not_true,Bool.not_false,rs]
        ·by_cases hgt:bg≤limit
         ·refine⟨0,0,?_,?_⟩
          ·simp(disch:=omega)only[hE,hT,e1,Bool.not_true,Bool.not_false,rs]
          ·simp(disch:=omega)only[hV,hK,hRT,e2,Bool.not_true,Bool.not_false,rs]
         ·refine⟨1,0,?_,?_⟩
          ·simp(disch:=omega)only[hE,hT,e1,Bool.not_true,Bool.not_false,rs]
          ·simp(disch:=omega)only[hV,hK,hRT,e2,Bool.not_true,Bool.not_false,rs]
      ·refine⟨0,e,?_,?_⟩
       ·simp(disch:=omega)only[hE,hT,e1,decide_eq_false he,Bool.not_true,Bool.not_false,rs]
       ·simp(disch:=omega)only[hV,hK,hRT,e2,decide_eq_false he,Bool.not_true,Bool.not_false,rs]
end Go.Proofs.Ytokeielgplbdeaa
