/-
  Predict: searches along arcs.
-/
import Derived.Test.YtokeielgplbdeaaZ4B5
set_option linter.all false
namespace Go.Proofs.Ytokeielgplbdeaa
open Go.K Go.M
def js(ks:List Nat):List (Int×Bool):=ks.map fun(k:Nat)=>((k:Int),true)
def qL(ks:List Nat)(k:Nat):List Int:=(ks.drop k).map fun(j:Nat)=>(j:Int)
theorem qqk(a b:Nat):qfa (a:Int) (b:Int)=decide (b=a):=by
 unfold qfa;rw[Bool.eq_iff_iff];simp;omega
theorem qpi(j:Nat):∀ks:List Nat,(cf (.int .i64) (j:Int) (js ks)).getD false=decide (j∈ks)
 |[]=>by simp[js,cf]
 |a::ks=>by
  show(bif qfa (j:Int) (a:Int)then some true else cf (.int .i64) (j:Int) (js ks)).getD false=_;rw[qqk];by_cases h:a=j
  ·rw[decide_eq_true h];subst h;simp
  ·rw[decide_eq_false h,cond_false,qpi j ks];have h' :¬j=a:=fun e=>h e.symm
   simp[h']
theorem qpj(j:Nat):∀ks:List Nat,j∉ks→t4 (.int .i64) (j:Int) true (js ks)=js (ks++[j])
 |[],_=>rfl
 |a::ks,h=>by
  have h1:¬a=j:=fun e=>h (by rw[e];exact List.mem_cons_self)
  show(bif qfa (j:Int) (a:Int)then _ else((a:Int),true)::t4 (.int .i64) (j:Int) true (js ks))=_;rw[qqk,decide_eq_false h1];exact congrArg (List.cons ((a:Int),true)) (qpj j ks fun hm=>h (List.mem_cons_of_mem _ hm))
theorem qwk(ks:List Nat)(j k:Nat)(h:k≤ks.length):qL (ks++[j]) k=qL ks k++[(j:Int)]:=by
 unfold qL;rw[List.drop_append_of_le_length h,List.map_append];rfl
theorem x3(ks:List Nat)(k:Nat):(qL ks k).length=ks.length-k:=by
 unfold qL;rw[List.length_map,List.length_drop]
theorem qwj{ks:List Nat}{k:Nat}(h:k<ks.length):(qL ks k).getD 0 0=((ks.getD k 0:Nat):Int):=by
 unfold qL;rw[gv _ _ _ 0 _ (by rw[List.length_drop];omega),List.getD_eq_getElem?_getD,List.getElem?_drop,Nat.add_zero,←List.getD_eq_getElem?_getD]
theorem qwl{ks:List Nat}{k:Nat}(h:k<ks.length):((qL ks k).drop 1).take ((qL ks k).length-1)=qL ks (k+1):=by
 rw[List.take_of_length_le (by rw[List.length_drop];exact Nat.le_refl _)];unfold qL;rw[←List.map_drop,List.drop_drop]
def ym(ks:List Nat)(j:Nat):List Nat:=if j∈ks then ks else ks++[j]
abbrev fo(ks ts:List Nat):List Nat:=ts.foldl ym ks
theorem q68{ks:List Nat}{j i:Nat}:i∈ym ks j↔i∈ks∨i=j:=by
 unfold ym;by_cases h:j∈ks
 ·rw[if_pos h];exact⟨.inl,fun h' =>h'.elim id fun e=>e▸h⟩
 ·rw[if_neg h,List.mem_append,List.mem_singleton]
theorem qbz:∀{ts ks:List Nat} {i:Nat},i∈fo ks ts↔i∈ks∨i∈ts
 |[],ks,i=>by simp
 |t::ts,ks,i=>by
  show i∈fo (ym ks t) ts↔_;rw[qbz,q68,List.mem_cons,or_assoc]
theorem jal{ks:List Nat}(h:ks.Nodup)(j:Nat):(ym ks j).Nodup:=by
 unfold ym;by_cases hj:j∈ks
 ·rw[if_pos hj];exact h
 ·rw[if_neg hj];exact List.nodup_append.2 ⟨h,by simp,fun a ha b hb=>by rw[List.mem_singleton.1 hb];exact fun e=>hj (e▸ha)⟩
theorem q1x:∀{ts ks:List Nat},ks.Nodup→(fo ks ts).Nodup
 |[],_,h=>h
 |t::ts,ks,h=>q1x (ts:=ts) (jal h t)
theorem q69(ks:List Nat)(j:Nat):ks.length≤(ym ks j).length∧∀k,k<ks.length→(ym ks j).getD k 0=ks.getD k 0:=by
 unfold ym;by_cases hj:j∈ks
 ·rw[if_pos hj];exact⟨Nat.le_refl _,fun _ _=>rfl⟩
 ·rw[if_neg hj];exact⟨by simp,fun k hk=>qkr _ _ _ _ hk⟩
theorem wj:∀(ts ks:List Nat),ks.length≤(fo ks ts).length∧∀k,k<ks.length→(fo ks ts).getD k 0=ks.getD k 0
 |[],ks=>⟨Nat.le_refl _,fun _ _=>rfl⟩
 |t::ts,ks=>by
  obtain⟨h1,h2⟩:=q69 ks t;obtain⟨h3,h4⟩:=wj ts (ym ks t);exact⟨Nat.le_trans h1 h3,fun k hk=>(h4 k (by omega)).trans (h2 k hk)⟩
structure BFS (E : Eg → Prop) (F : Nat → List Nat) (N s k : Nat) (ks : List Nat) : Prop where
 nd : ks.Nodup
 lt : ∀ j ∈ ks, j < N
 st : s ∈ ks
 rch : ∀ j ∈ ks, qt E s j
 cl : ∀ i, i < k → ∀ j ∈ F (ks.getD i 0), j ∈ ks
 le : k ≤ ks.length
section
variable {E : Eg → Prop} {F : Nat → List Nat} {N s k : Nat} {ks : List Nat}
theorem BFS.len(h:BFS E F N s k ks):ks.length≤N:=by
 have:=qmx ks (List.range N) h.nd fun x hx=>List.mem_range.2 (h.lt x hx)
 rwa[List.length_range]at this
theorem BFS.start(hs:s<N):BFS E F N s 0 [s]:=⟨by simp,fun j hj=>by rw[List.mem_singleton.1 hj];exact hs,List.mem_singleton.2 rfl,fun j hj=>by rw[List.mem_singleton.1 hj];exact qt.refl s,fun i hi=>by omega,Nat.zero_le _⟩
theorem BFS.next(h:BFS E F N s k ks)(hk:k<ks.length)(hF:∀i j,j∈F i→(∃t,E (i,j,t))∧j<N):BFS E F N s (k+1) (fo ks (F (ks.getD k 0))):=by
 obtain⟨h1,h2⟩:=wj (F (ks.getD k 0)) ks;refine⟨q1x h.nd,fun j hj=> ?_,qbz.2 (.inl h.st),fun j hj=> ?_,fun i hi j hj=> ?_,by omega⟩
 ·rcases qbz.1 hj with hj|hj
  ·exact h.lt j hj
  ·exact(hF _ j hj).2
 ·rcases qbz.1 hj with hj|hj
  ·exact h.rch j hj
  ·obtain⟨⟨t,ht⟩,_⟩:=hF _ j hj;exact(h.rch _ (aw 0 hk)).trans (qt.edge ht)
 ·rw[h2 i (by omega)]at hj;by_cases hik:i=k
  ·rw[hik]at hj;exact qbz.2 (.inr hj)
  ·exact qbz.2 (.inl (h.cl i (by omega) j hj))
theorem BFS.all(h:BFS E F N s k ks)(hk:¬k<ks.length)(hF:∀e,E e→e.2.1∈F e.1):∀j,qt E s j→j∈ks:=by
 have hcl:∀i∈ks,∀j∈F i,j∈ks:=fun i hi j hj=>by
  obtain⟨x,hx,rfl⟩:=i5 0 hi;exact h.cl x (by omega) j hj
 rintro j ⟨l,hl⟩;have key:∀(l:List Eg) (i:Nat),i∈ks→sw E i l j→j∈ks:=fun l=>by
  induction l with
  |nil=>intro i hi hw;rw[←show i=j from hw];exact hi
  |cons e l ih=>
   rintro i hi ⟨h1,h2,h3⟩;refine ih _ (hcl i hi _ ?_) h3;rw[←h1];exact hF e h2
 exact key l s h.st hl
end
theorem qja(q:Nat×Nat):(bw q).1=(q.1:Int):=rfl
theorem qka(q:Nat×Nat):(bw q).2.1=(q.2:Int):=rfl
theorem jap(to:Int)(A:List (Nat×Nat))(hA:A.length≤100000)(g30:List (Int×List ab))(g31 g32:Int)(ks:List Nat)(hks:ks.length≤100000)(k:Nat)(hk:k≤ks.length):
  kd to (A.map bw) ((A.map bw).length:Int) g30 g31 g32 (0,js ks,qL ks k)=some (.inl (js (fo ks (A.map (·.1))),qL (fo ks (A.map (·.1))) k)):=by
 have hlA:(A.map bw).length=A.length:=by rw[List.length_map]
 rw[hlA];have eT:fo ks (A.map (·.1))=fo ks ((A.take A.length).map (·.1)):=by rw[List.take_length]
 rw[eT];refine iz (fun i:Nat=>((i:Int),js (fo ks ((A.take i).map (·.1))),qL (fo ks ((A.take i).map (·.1))) k)) A.length (bh (by omega)) _ (fun i hi=> ?_) ?_ _ (by rfl)
 ·have e1:fo ks ((A.take (i+1)).map (·.1))=ym (fo ks ((A.take i).map (·.1))) (A.getD i (0,0)).1:=by
   rw[cb A i (0,0) hi,List.map_append];unfold fo;rw[List.foldl_append];rfl
  have hpre:=(wj ((A.take i).map (·.1)) ks).1;have hlen:(fo ks ((A.take i).map (·.1))).length≤ks.length+A.length:=by
   have key:∀(ts:List Nat) (l:List Nat),(fo l ts).length≤l.length+ts.length:=fun ts=>by
    induction ts with
    |nil=>intro l;exact Nat.le_refl _
    |cons t ts ih=>
     intro l;have h1:=ih (ym l t);have h2:(ym l t).length≤l.length+1:=by unfold ym;split<;>simp
     show(fo (ym l t) ts).length≤_;rw[List.length_cons];omega
   have:=key ((A.take i).map (·.1)) ks;rw[List.length_map,List.length_take]at this;omega
  rw[e1];generalize fo ks ((A.take i).map (·.1))=l at hpre hlen;have hg:(A.map bw).getD i ab.z=bw (A.getD i (0,0)):=gv _ _ _ _ _ hi;generalize A.getD i (0,0)=q at hg;have hkl:i<(A.map bw).length:=by rw[hlA];exact hi
  have h1:=qpi q.1 l;have h2:=x3 l k;unfold ym;by_cases hm:q.1∈l
  ·rw[if_pos hm];rw[decide_eq_true hm]at h1;simp(disch:=omega)only[gk,hg,qja,rs];rw[h1];simp(disch:=omega)only[Bool.not_true,aj,rs]
  ·rw[if_neg hm];rw[decide_eq_false hm]at h1;rw[←qpj q.1 l hm,qwk l q.1 k (by omega)];simp(disch:=omega)only[gk,hg,qja,rs];rw[h1];simp(disch:=omega)only[Bool.not_false,aj,rs]
 ·simp(disch:=omega)only[gk,hlA,rs]
end Go.Proofs.Ytokeielgplbdeaa
