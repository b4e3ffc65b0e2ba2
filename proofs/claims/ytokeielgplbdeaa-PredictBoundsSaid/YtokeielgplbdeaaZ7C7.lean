/-
  Predict: Steps and Late of program and reference agree.
-/
import Derived.Test.YtokeielgplbdeaaZ7C6
set_option linter.all false
namespace Go.Proofs.Ytokeielgplbdeaa
open Go.K Go.M
abbrev qe3(T:Nat):List af:=List.replicate T (1,1,false,())
theorem q87:∀T:Nat,T≤20→fe [(1,1,false,())] (T:Int)=some (qe3 T)
 |0,_=>by kernel_rfl
 |1,_=>by kernel_rfl
 |2,_=>by kernel_rfl
 |3,_=>by kernel_rfl
 |4,_=>by kernel_rfl
 |5,_=>by kernel_rfl
 |6,_=>by kernel_rfl
 |7,_=>by kernel_rfl
 |8,_=>by kernel_rfl
 |9,_=>by kernel_rfl
 |10,_=>by kernel_rfl
 |11,_=>by kernel_rfl
 |12,_=>by kernel_rfl
 |13,_=>by kernel_rfl
 |14,_=>by kernel_rfl
 |15,_=>by kernel_rfl
 |16,_=>by kernel_rfl
 |17,_=>by kernel_rfl
 |18,_=>by kernel_rfl
 |19,_=>by kernel_rfl
 |20,_=>by kernel_rfl
 |n+21,h=>absurd h (by omega)
theorem q2w:∀T:Nat,T≤20→qeh (T:Int)=some (qe3 T)
 |0,_=>by kernel_rfl
 |1,_=>by kernel_rfl
 |2,_=>by kernel_rfl
 |3,_=>by kernel_rfl
 |4,_=>by kernel_rfl
 |5,_=>by kernel_rfl
 |6,_=>by kernel_rfl
 |7,_=>by kernel_rfl
 |8,_=>by kernel_rfl
 |9,_=>by kernel_rfl
 |10,_=>by kernel_rfl
 |11,_=>by kernel_rfl
 |12,_=>by kernel_rfl
 |13,_=>by kernel_rfl
 |14,_=>by kernel_rfl
 |15,_=>by kernel_rfl
 |16,_=>by kernel_rfl
 |17,_=>by kernel_rfl
 |18,_=>by kernel_rfl
 |19,_=>by kernel_rfl
 |20,_=>by kernel_rfl
 |n+21,h=>absurd h (by omega)
theorem qtj(T:Nat):dk (qe3 T) T=true:=by
 unfold dk;rw[List.length_replicate,decide_eq_true rfl,Bool.true_and,Bool.not_eq_true'];refine List.any_eq_false.2 fun x hx=> ?_
 rw[(List.mem_replicate.1 hx).2]
 decide
theorem q5d{n:cz}(h:Small n)(htr:n.2.1.length≤20){m:List Int}(hl:m.length≤1000){most:Int}(hmost:¬(100<most∧most≤2000)):∃B e,vn n m most=some (B,e)∧qam n m most=some (B,e):=by
 have hV:=qf7 h;have h1:=q87 n.2.1.length htr;have h2:=q2w n.2.1.length htr;have hlo:(qe3 n.2.1.length).length=n.2.1.length:=List.length_replicate;have hr:=res h htr hl (ts:=qe3 n.2.1.length) (by omega) hmost;obtain⟨B,e,e1,e2,_⟩:=qm4 hr;unfold vn qam qed;cases hv:d9 n with
 |true=>
  rw[hv]at hV;refine⟨B,e,?_,?_⟩
  ·simp(disch:=omega)only[hV,h1,e1,Bool.not_true,rs]
  ·simp(disch:=omega)only[h2,e2,rs]
 |false=>
  rw[hv]at hV;have hg:=qsp h htr hl (ts:=qe3 n.2.1.length) (by omega) most;rw[qtj]at hg;have hE:=ot h m (by omega);rw[hv]at hE;have he:aw n m most=some ([],0,0,1):=by
   unfold aw;simp(disch:=omega)only[hE,Bool.false_and,rs]
  have hg:br n m (qe3 n.2.1.length) most=some ([],0,0,1):=hg.trans he;have e3:=qg2 (by decide) hg;rw[e3]at e1;cases e1;refine⟨(0,0,false,()),1,?_,?_⟩
  ·simp(disch:=omega)only[hV,Bool.not_false,rs]
  ·simp(disch:=omega)only[h2,e2,rs]
theorem q8q{n:cz}(h:Small n)(htr:n.2.1.length≤20){m:List Int}(hl:m.length≤1000){ts:List af}(hts:ts.length≤1000){most:Int}(hmost:¬(100<most∧most≤2000))(limit:Int):∃x e,yg n m ts limit most=some (x,e)∧qeg n m ts limit most=some (x,e):=by
 have hE:=ot h m (by omega);have hV:=qao h;have hK:=ql n m (by omega);have hT:=qxr (n:=n) (ts:=ts) (by omega);have hRT:=pe (ts:=ts) (by omega) n.2.1.length;obtain⟨B,e,e1,e2,e3⟩:=qm4 (res h htr hl hts hmost);unfold yg qeg;cases hv:d9 n with
 |false=>
  rw[hv]at hE hV;refine⟨0,1,?_,?_⟩
  ·simp(disch:=omega)only[hE,Bool.false_and,rs]
  ·simp(disch:=omega)only[hV,Bool.not_false,rs]
 |true=>
  rw[hv,Bool.true_and]at hE;rw[hv]at hV;cases hm:df n.1 m with
  |false=>
   rw[hm]at hE hK;refine⟨0,1,?_,?_⟩
   ·simp(disch:=omega)only[hE,rs]
   ·simp(disch:=omega)only[hV,hK,Bool.not_true,Bool.not_false,rs]
  |true=>
   rw[hm]at hE hK;cases ht:dk ts n.2.1.length with
   |false=>
    rw[ht]at hT hRT;refine⟨0,1,?_,?_⟩
    ·simp(disch:=omega)only[hE,hT,Bool.not_false,rs]
    ·simp(disch:=omega)only[hV,hK,hRT,Bool.not_true,Bool.not_false,rs]
   |true=>
    rw[ht]at hT hRT;by_cases hl0:limit<0
    ·refine⟨0,2,?_,?_⟩
     ·simp(disch:=omega)only[hE,hT,Bool.not_true,rs]
     ·simp(disch:=omega)only[hV,hK,hRT,Bool.not_true,rs]
    ·by_cases hl1:1099511627776<limit
     ·refine⟨0,2,?_,?_⟩
      ·simp(disch:=omega)only[hE,hT,Bool.not_true,rs]
      ·simp(disch:=omega)only[hV,hK,hRT,Bool.not_true,rs]
     ·by_cases he:e=0
      ·have e3:=e3 he;subst he;obtain⟨bl,bg,bo,⟨⟩⟩:=B;cases bo with
       |true=>
        by_cases hlt:limit<bl
        ·refine⟨2,0,?_,?_⟩
         ·simp(disch:=omega)only[hE,hT,e1,Bool.not_true,rs]
         ·simp(disch:=omega)only[hV,hK,hRT,e2,Bool.not_true,rs]
        ·refine⟨1,0,?_,?_⟩
         ·simp(disch:=omega)only[hE,hT,e1,Bool.not_true,rs]
         ·simp(disch:=omega)only[hV,hK,hRT,e2,Bool.not_true,rs]
       |false=>
        have e3:bl≤bg:=e3 rfl rfl;by_cases hlt:limit<bl
        ·refine⟨2,0,?_,?_⟩
         ·simp(disch:=omega)only[hE,hT,e1,Bool.not_true,Bool.not_false,rs]
         ·simp(disch:=omega)only[hV,hK,hRT,e2,Bool.not_true,Bool.not_false,rs]
        ·by_cases hgt:bg≤limit
         ·refine⟨0,0,?_,?_⟩
          ·simp(disch:=omega)only[hE,hT,e1,Bool.not_true,Bool.not_false,rs]
          ·simp(disch:=omega)only[hV,hK,hRT,e2,Bool.not_true,Bool.not_false,rs]
         ·refine⟨1,0,?_,?_⟩
          ·simp(disch:=omega)only[hE,hT,e1,Bool.not_true,Bool.not_false,rs]
          ·simp(disch:=omega)only[hV,hK,hRT,e2,Bool.not_true,Bool.not_false,rs]
      ·refine⟨0,e,?_,?_⟩
       ·simp(disch:=omega)only[hE,hT,e1,decide_eq_false he,Bool.not_true,Bool.not_false,rs]
       ·simp(disch:=omega)only[hV,hK,hRT,e2,decide_eq_false he,Bool.not_true,Bool.not_false,rs]
end Go.Proofs.Ytokeielgplbdeaa
