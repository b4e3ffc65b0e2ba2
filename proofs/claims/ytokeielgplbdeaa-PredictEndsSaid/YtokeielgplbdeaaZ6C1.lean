/-
  Predict: searches along arcs.
-/
import Derived.Test.YtokeielgplbdeaaZ6B5
set_option linter.all false
namespace Go.Proofs.Ytokeielgplbdeaa
open Go.K Go.M
def jo(ks:List Nat):List (Int×Bool):=ks.map fun(k:Nat)=>((k:Int),true)
def qL(ks:List Nat)(k:Nat):List Int:=(ks.drop k).map fun(j:Nat)=>(j:Int)
theorem qq7(a b:Nat):qff (a:Int) (b:Int)=decide (b=a):=by
 unfold qff;rw[Bool.eq_iff_iff];simp;omega
theorem qp2(j:Nat):∀ks:List Nat,(b8 (.int .i64) (j:Int) (jo ks)).getD false=decide (j∈ks)
 |[]=>by simp[jo,b8]
 |a::ks=>by
  show(bif qff (j:Int) (a:Int)then some true else b8 (.int .i64) (j:Int) (jo ks)).getD false=_;rw[qq7];by_cases h:a=j
  ·rw[decide_eq_true h];subst h;simp
  ·rw[decide_eq_false h,cond_false,qp2 j ks];have h' :¬j=a:=fun e=>h e.symm
   simp[h']
theorem qp3(j:Nat):∀ks:List Nat,j∉ks→ua (.int .i64) (j:Int) true (jo ks)=jo (ks++[j])
 |[],_=>rfl
 |a::ks,h=>by
  have h1:¬a=j:=fun e=>h (by rw[e];exact List.mem_cons_self)
  show(bif qff (j:Int) (a:Int)then _ else((a:Int),true)::ua (.int .i64) (j:Int) true (jo ks))=_;rw[qq7,decide_eq_false h1];exact congrArg (List.cons ((a:Int),true)) (qp3 j ks fun hm=>h (List.mem_cons_of_mem _ hm))
theorem qxd(ks:List Nat)(j k:Nat)(h:k≤ks.length):qL (ks++[j]) k=qL ks k++[(j:Int)]:=by
 unfold qL;rw[List.drop_append_of_le_length h,List.map_append];rfl
theorem x4(ks:List Nat)(k:Nat):(qL ks k).length=ks.length-k:=by
 unfold qL;rw[List.length_map,List.length_drop]
theorem qxc{ks:List Nat}{k:Nat}(h:k<ks.length):(qL ks k).getD 0 0=((ks.getD k 0:Nat):Int):=by
 unfold qL;rw[ii _ _ _ 0 _ (by rw[List.length_drop];omega),List.getD_eq_getElem?_getD,List.getElem?_drop,Nat.add_zero,←List.getD_eq_getElem?_getD]
theorem qxe{ks:List Nat}{k:Nat}(h:k<ks.length):((qL ks k).drop 1).take ((qL ks k).length-1)=qL ks (k+1):=by
 rw[List.take_of_length_le (by rw[List.length_drop];exact Nat.le_refl _)];unfold qL;rw[←List.map_drop,List.drop_drop]
def yo(ks:List Nat)(j:Nat):List Nat:=if j∈ks then ks else ks++[j]
abbrev fk(ks ts:List Nat):List Nat:=ts.foldl yo ks
theorem q70{ks:List Nat}{j i:Nat}:i∈yo ks j↔i∈ks∨i=j:=by
 unfold yo;by_cases h:j∈ks
 ·rw[if_pos h];exact⟨.inl,fun h' =>h'.elim id fun e=>e▸h⟩
 ·rw[if_neg h,List.mem_append,List.mem_singleton]
theorem qbx:∀{ts ks:List Nat} {i:Nat},i∈fk ks ts↔i∈ks∨i∈ts
 |[],ks,i=>by simp
 |t::ts,ks,i=>by
  show i∈fk (yo ks t) ts↔_;rw[qbx,q70,List.mem_cons,or_assoc]
theorem jbf{ks:List Nat}(h:ks.Nodup)(j:Nat):(yo ks j).Nodup:=by
 unfold yo;by_cases hj:j∈ks
 ·rw[if_pos hj];exact h
 ·rw[if_neg hj];exact List.nodup_append.2 ⟨h,by simp,fun a ha b hb=>by rw[List.mem_singleton.1 hb];exact fun e=>hj (e▸ha)⟩
theorem q2r:∀{ts ks:List Nat},ks.Nodup→(fk ks ts).Nodup
 |[],_,h=>h
 |t::ts,ks,h=>q2r (ts:=ts) (jbf h t)
theorem q71(ks:List Nat)(j:Nat):ks.length≤(yo ks j).length∧∀k,k<ks.length→(yo ks j).getD k 0=ks.getD k 0:=by
 unfold yo;by_cases hj:j∈ks
 ·rw[if_pos hj];exact⟨Nat.le_refl _,fun _ _=>rfl⟩
 ·rw[if_neg hj];exact⟨by simp,fun k hk=>qlc _ _ _ _ hk⟩
theorem wi:∀(ts ks:List Nat),ks.length≤(fk ks ts).length∧∀k,k<ks.length→(fk ks ts).getD k 0=ks.getD k 0
 |[],ks=>⟨Nat.le_refl _,fun _ _=>rfl⟩
 |t::ts,ks=>by
  obtain⟨h1,h2⟩:=q71 ks t;obtain⟨h3,h4⟩:=wi ts (yo ks t);exact⟨Nat.le_trans h1 h3,fun k hk=>(h4 k (by omega)).trans (h2 k hk)⟩
structure BFS (E : Eg → Prop) (F : Nat → List Nat) (N s k : Nat) (ks : List Nat) : Prop where
 nd : ks.Nodup
 lt : ∀ j ∈ ks, j < N
 st : s ∈ ks
 rch : ∀ j ∈ ks, qt E s j
 cl : ∀ i, i < k → ∀ j ∈ F (ks.getD i 0), j ∈ ks
 le : k ≤ ks.length
section
variable {E : Eg → Prop} {F : Nat → List Nat} {N s k : Nat} {ks : List Nat}
theorem BFS.len(h:BFS E F N s k ks):ks.length≤N:=by
 have:=qnf ks (List.range N) h.nd fun x hx=>List.mem_range.2 (h.lt x hx)
 rwa[List.length_range]at this
theorem BFS.start(hs:s<N):BFS E F N s 0 [s]:=⟨by simp,fun j hj=>by rw[List.mem_singleton.1 hj];exact hs,List.mem_singleton.2 rfl,fun j hj=>by rw[List.mem_singleton.1 hj];exact qt.refl s,fun i hi=>by omega,Nat.zero_le _⟩
theorem BFS.next(h:BFS E F N s k ks)(hk:k<ks.length)(hF:∀i j,j∈F i→(∃t,E (i,j,t))∧j<N):BFS E F N s (k+1) (fk ks (F (ks.getD k 0))):=by
 obtain⟨h1,h2⟩:=wi (F (ks.getD k 0)) ks;refine⟨q2r h.nd,fun j hj=> ?_,qbx.2 (.inl h.st),fun j hj=> ?_,fun i hi j hj=> ?_,by omega⟩
 ·rcases qbx.1 hj with hj|hj
  ·exact h.lt j hj
  ·exact(hF _ j hj).2
 ·rcases qbx.1 hj with hj|hj
  ·exact h.rch j hj
  ·obtain⟨⟨t,ht⟩,_⟩:=hF _ j hj;exact(h.rch _ (az 0 hk)).trans (qt.edge ht)
 ·rw[h2 i (by omega)]at hj;by_cases hik:i=k
  ·rw[hik]at hj;exact qbx.2 (.inr hj)
  ·exact qbx.2 (.inl (h.cl i (by omega) j hj))
theorem BFS.all(h:BFS E F N s k ks)(hk:¬k<ks.length)(hF:∀e,E e→e.2.1∈F e.1):∀j,qt E s j→j∈ks:=by
 have hcl:∀i∈ks,∀j∈F i,j∈ks:=fun i hi j hj=>by
  obtain⟨x,hx,rfl⟩:=j8 0 hi;exact h.cl x (by omega) j hj
 rintro j ⟨l,hl⟩;have key:∀(l:List Eg) (i:Nat),i∈ks→IsW E i l j→j∈ks:=fun l=>by
  induction l with
  |nil=>intro i hi hw;rw[←show i=j from hw];exact hi
  |cons e l ih=>
   rintro i hi ⟨h1,h2,h3⟩;refine ih _ (hcl i hi _ ?_) h3;rw[←h1];exact hF e h2
 exact key l s h.st hl
end
theorem qjs(q:Nat×Nat):(bu q).1=(q.1:Int):=rfl
theorem qkv(q:Nat×Nat):(bu q).2.1=(q.2:Int):=rfl
theorem jbj(to:Int)(A:List (Nat×Nat))(hA:A.length≤100000)(g30:List (Int×List ab))(g31 g32:Int)(ks:List Nat)(hks:ks.length≤100000)(k:Nat)(hk:k≤ks.length):
  kc to (A.map bu) ((A.map bu).length:Int) g30 g31 g32 (0,jo ks,qL ks k)=some (.inl (jo (fk ks (A.map (·.1))),qL (fk ks (A.map (·.1))) k)):=by
 have hlA:(A.map bu).length=A.length:=by rw[List.length_map]
 rw[hlA];have eT:fk ks (A.map (·.1))=fk ks ((A.take A.length).map (·.1)):=by rw[List.take_length]
 rw[eT];refine iw (fun i:Nat=>((i:Int),jo (fk ks ((A.take i).map (·.1))),qL (fk ks ((A.take i).map (·.1))) k)) A.length (bm (by omega)) _ (fun i hi=> ?_) ?_ _ (by rfl)
 ·have e1:fk ks ((A.take (i+1)).map (·.1))=yo (fk ks ((A.take i).map (·.1))) (A.getD i (0,0)).1:=by
   rw[cb A i (0,0) hi,List.map_append];unfold fk;rw[List.foldl_append];rfl
  have hpre:=(wi ((A.take i).map (·.1)) ks).1;have hlen:(fk ks ((A.take i).map (·.1))).length≤ks.length+A.length:=by
   have key:∀(ts:List Nat) (l:List Nat),(fk l ts).length≤l.length+ts.length:=fun ts=>by
    induction ts with
    |nil=>intro l;exact Nat.le_refl _
    |cons t ts ih=>
     intro l;have h1:=ih (yo l t);have h2:(yo l t).length≤l.length+1:=by unfold yo;split<;>simp
     show(fk (yo l t) ts).length≤_;rw[List.length_cons];omega
   have:=key ((A.take i).map (·.1)) ks;rw[List.length_map,List.length_take]at this;omega
  rw[e1];generalize fk ks ((A.take i).map (·.1))=l at hpre hlen;have hg:(A.map bu).getD i ab.z=bu (A.getD i (0,0)):=ii _ _ _ _ _ hi;generalize A.getD i (0,0)=q at hg;have hkl:i<(A.map bu).length:=by rw[hlA];exact hi
  have h1:=qp2 q.1 l;have h2:=x4 l k;unfold yo;by_cases hm:q.1∈l
  ·rw[if_pos hm];rw[decide_eq_true hm]at h1;simp(disch:=omega)only[gg,hg,qjs,rs];rw[h1];simp(disch:=omega)only[Bool.not_true,aj,rs]
  ·rw[if_neg hm];rw[decide_eq_false hm]at h1;rw[←qp3 q.1 l hm,qxd l q.1 k (by omega)];simp(disch:=omega)only[gg,hg,qjs,rs];rw[h1];simp(disch:=omega)only[Bool.not_false,aj,rs]
 ·simp(disch:=omega)only[gg,hlA,rs]
end Go.Proofs.Ytokeielgplbdeaa
