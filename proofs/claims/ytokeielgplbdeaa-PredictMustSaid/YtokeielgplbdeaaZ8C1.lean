/-
  Predict: searches along arcs.
-/
import Derived.Test.YtokeielgplbdeaaZ8B5
set_option linter.all false
namespace Go.Proofs.Ytokeielgplbdeaa
open Go.K Go.M
def jz(ks:List Nat):List (Int×Bool):=ks.map fun(k:Nat)=>((k:Int),true)
def qL(ks:List Nat)(k:Nat):List Int:=(ks.drop k).map fun(j:Nat)=>(j:Int)
theorem qr7(a b:Nat):qfi (a:Int) (b:Int)=decide (b=a):=by
 unfold qfi;rw[Bool.eq_iff_iff];simp;omega
theorem qq2(j:Nat):∀ks:List Nat,(cb (.int .i64) (j:Int) (jz ks)).getD false=decide (j∈ks)
 |[]=>by simp[jz,cb]
 |a::ks=>by
  show(bif qfi (j:Int) (a:Int)then some true else cb (.int .i64) (j:Int) (jz ks)).getD false=_;rw[qr7];by_cases h:a=j
  ·rw[decide_eq_true h];subst h;simp
  ·rw[decide_eq_false h,cond_false,qq2 j ks];have h' :¬j=a:=fun e=>h e.symm
   simp[h']
theorem qq3(j:Nat):∀ks:List Nat,j∉ks→ur (.int .i64) (j:Int) true (jz ks)=jz (ks++[j])
 |[],_=>rfl
 |a::ks,h=>by
  have h1:¬a=j:=fun e=>h (by rw[e];exact List.mem_cons_self)
  show(bif qfi (j:Int) (a:Int)then _ else((a:Int),true)::ur (.int .i64) (j:Int) true (jz ks))=_;rw[qr7,decide_eq_false h1];exact congrArg (List.cons ((a:Int),true)) (qq3 j ks fun hm=>h (List.mem_cons_of_mem _ hm))
theorem qyu(ks:List Nat)(j k:Nat)(h:k≤ks.length):qL (ks++[j]) k=qL ks k++[(j:Int)]:=by
 unfold qL;rw[List.drop_append_of_le_length h,List.map_append];rfl
theorem yg(ks:List Nat)(k:Nat):(qL ks k).length=ks.length-k:=by
 unfold qL;rw[List.length_map,List.length_drop]
theorem qyt{ks:List Nat}{k:Nat}(h:k<ks.length):(qL ks k).getD 0 0=((ks.getD k 0:Nat):Int):=by
 unfold qL;rw[i9 _ _ _ 0 _ (by rw[List.length_drop];omega),List.getD_eq_getElem?_getD,List.getElem?_drop,Nat.add_zero,←List.getD_eq_getElem?_getD]
theorem qyv{ks:List Nat}{k:Nat}(h:k<ks.length):((qL ks k).drop 1).take ((qL ks k).length-1)=qL ks (k+1):=by
 rw[List.take_of_length_le (by rw[List.length_drop];exact Nat.le_refl _)];unfold qL;rw[←List.map_drop,List.drop_drop]
def y6(ks:List Nat)(j:Nat):List Nat:=if j∈ks then ks else ks++[j]
abbrev fq(ks ts:List Nat):List Nat:=ts.foldl y6 ks
theorem q99{ks:List Nat}{j i:Nat}:i∈y6 ks j↔i∈ks∨i=j:=by
 unfold y6;by_cases h:j∈ks
 ·rw[if_pos h];exact⟨.inl,fun h' =>h'.elim id fun e=>e▸h⟩
 ·rw[if_neg h,List.mem_append,List.mem_singleton]
theorem qca:∀{ts ks:List Nat} {i:Nat},i∈fq ks ts↔i∈ks∨i∈ts
 |[],ks,i=>by simp
 |t::ts,ks,i=>by
  show i∈fq (y6 ks t) ts↔_;rw[qca,q99,List.mem_cons,or_assoc]
theorem jdk{ks:List Nat}(h:ks.Nodup)(j:Nat):(y6 ks j).Nodup:=by
 unfold y6;by_cases hj:j∈ks
 ·rw[if_pos hj];exact h
 ·rw[if_neg hj];exact List.nodup_append.2 ⟨h,by simp,fun a ha b hb=>by rw[List.mem_singleton.1 hb];exact fun e=>hj (e▸ha)⟩
theorem q4h:∀{ts ks:List Nat},ks.Nodup→(fq ks ts).Nodup
 |[],_,h=>h
 |t::ts,ks,h=>q4h (ts:=ts) (jdk h t)
theorem jaa(ks:List Nat)(j:Nat):ks.length≤(y6 ks j).length∧∀k,k<ks.length→(y6 ks j).getD k 0=ks.getD k 0:=by
 unfold y6;by_cases hj:j∈ks
 ·rw[if_pos hj];exact⟨Nat.le_refl _,fun _ _=>rfl⟩
 ·rw[if_neg hj];exact⟨by simp,fun k hk=>qln _ _ _ _ hk⟩
theorem xg:∀(ts ks:List Nat),ks.length≤(fq ks ts).length∧∀k,k<ks.length→(fq ks ts).getD k 0=ks.getD k 0
 |[],ks=>⟨Nat.le_refl _,fun _ _=>rfl⟩
 |t::ts,ks=>by
  obtain⟨h1,h2⟩:=jaa ks t;obtain⟨h3,h4⟩:=xg ts (y6 ks t);exact⟨Nat.le_trans h1 h3,fun k hk=>(h4 k (by omega)).trans (h2 k hk)⟩
structure BFS (E : Eg → Prop) (F : Nat → List Nat) (N s k : Nat) (ks : List Nat) : Prop where
 nd : ks.Nodup
 lt : ∀ j ∈ ks, j < N
 st : s ∈ ks
 rch : ∀ j ∈ ks, rn E s j
 cl : ∀ i, i < k → ∀ j ∈ F (ks.getD i 0), j ∈ ks
 le : k ≤ ks.length
section
variable {E : Eg → Prop} {F : Nat → List Nat} {N s k : Nat} {ks : List Nat}
theorem BFS.len(h:BFS E F N s k ks):ks.length≤N:=by
 have:=qn0 ks (List.range N) h.nd fun x hx=>List.mem_range.2 (h.lt x hx)
 rwa[List.length_range]at this
theorem BFS.start(hs:s<N):BFS E F N s 0 [s]:=⟨by simp,fun j hj=>by rw[List.mem_singleton.1 hj];exact hs,List.mem_singleton.2 rfl,fun j hj=>by rw[List.mem_singleton.1 hj];exact rn.refl s,fun i hi=>by omega,Nat.zero_le _⟩
theorem BFS.next(h:BFS E F N s k ks)(hk:k<ks.length)(hF:∀i j,j∈F i→(∃t,E (i,j,t))∧j<N):BFS E F N s (k+1) (fq ks (F (ks.getD k 0))):=by
 obtain⟨h1,h2⟩:=xg (F (ks.getD k 0)) ks;refine⟨q4h h.nd,fun j hj=> ?_,qca.2 (.inl h.st),fun j hj=> ?_,fun i hi j hj=> ?_,by omega⟩
 ·rcases qca.1 hj with hj|hj
  ·exact h.lt j hj
  ·exact(hF _ j hj).2
 ·rcases qca.1 hj with hj|hj
  ·exact h.rch j hj
  ·obtain⟨⟨t,ht⟩,_⟩:=hF _ j hj;exact(h.rch _ (aw 0 hk)).trans (rn.edge ht)
 ·rw[h2 i (by omega)]at hj;by_cases hik:i=k
  ·rw[hik]at hj;exact qca.2 (.inr hj)
  ·exact qca.2 (.inl (h.cl i (by omega) j hj))
theorem BFS.all(h:BFS E F N s k ks)(hk:¬k<ks.length)(hF:∀e,E e→e.2.1∈F e.1):∀j,rn E s j→j∈ks:=by
 have hcl:∀i∈ks,∀j∈F i,j∈ks:=fun i hi j hj=>by
  obtain⟨x,hx,rfl⟩:=ig 0 hi;exact h.cl x (by omega) j hj
 rintro j ⟨l,hl⟩;have key:∀(l:List Eg) (i:Nat),i∈ks→tj E i l j→j∈ks:=fun l=>by
  induction l with
  |nil=>intro i hi hw;rw[←show i=j from hw];exact hi
  |cons e l ih=>
   rintro i hi ⟨h1,h2,h3⟩;refine ih _ (hcl i hi _ ?_) h3;rw[←h1];exact hF e h2
 exact key l s h.st hl
end
theorem qjz(q:Nat×Nat):(bw q).1=(q.1:Int):=rfl
theorem qk3(q:Nat×Nat):(bw q).2.1=(q.2:Int):=rfl
theorem jdn(to:Int)(A:List (Nat×Nat))(hA:A.length≤100000)(g30:List (Int×List ab))(g31 g32:Int)(ks:List Nat)(hks:ks.length≤100000)(k:Nat)(hk:k≤ks.length):
  kq to (A.map bw) ((A.map bw).length:Int) g30 g31 g32 (0,jz ks,qL ks k)=some (.inl (jz (fq ks (A.map (·.1))),qL (fq ks (A.map (·.1))) k)):=by
 have hlA:(A.map bw).length=A.length:=by rw[List.length_map]
 rw[hlA];have eT:fq ks (A.map (·.1))=fq ks ((A.take A.length).map (·.1)):=by rw[List.take_length]
 rw[eT];refine jy (fun i:Nat=>((i:Int),jz (fq ks ((A.take i).map (·.1))),qL (fq ks ((A.take i).map (·.1))) k)) A.length (bm (by omega)) _ (fun i hi=> ?_) ?_ _ (by rfl)
 ·have e1:fq ks ((A.take (i+1)).map (·.1))=y6 (fq ks ((A.take i).map (·.1))) (A.getD i (0,0)).1:=by
   rw[cr A i (0,0) hi,List.map_append];unfold fq;rw[List.foldl_append];rfl
  have hpre:=(xg ((A.take i).map (·.1)) ks).1;have hlen:(fq ks ((A.take i).map (·.1))).length≤ks.length+A.length:=by
   have key:∀(ts:List Nat) (l:List Nat),(fq l ts).length≤l.length+ts.length:=fun ts=>by
    induction ts with
    |nil=>intro l;exact Nat.le_refl _
    |cons t ts ih=>
     intro l;have h1:=ih (y6 l t);have h2:(y6 l t).length≤l.length+1:=by unfold y6;split<;>simp
     show(fq (y6 l t) ts).length≤_;rw[List.length_cons];omega
   have:=key ((A.take i).map (·.1)) ks;rw[List.length_map,List.length_take]at this;omega
  rw[e1];generalize fq ks ((A.take i).map (·.1))=l at hpre hlen;have hg:(A.map bw).getD i ab.z=bw (A.getD i (0,0)):=i9 _ _ _ _ _ hi;generalize A.getD i (0,0)=q at hg;have hkl:i<(A.map bw).length:=by rw[hlA];exact hi
  have h1:=qq2 q.1 l;have h2:=yg l k;unfold y6;by_cases hm:q.1∈l
  ·rw[if_pos hm];rw[decide_eq_true hm]at h1;simp(disch:=omega)only[gk,hg,qjz,rs];rw[h1];simp(disch:=omega)only[Bool.not_true,al,rs]
  ·rw[if_neg hm];rw[decide_eq_false hm]at h1;rw[←qq3 q.1 l hm,qyu l q.1 k (by omega)];simp(disch:=omega)only[gk,hg,qjz,rs];rw[h1];simp(disch:=omega)only[Bool.not_false,al,rs]
 ·simp(disch:=omega)only[gk,hlA,rs]
end Go.Proofs.Ytokeielgplbdeaa
