/-
  Predict: runs along walks, and their times.
-/
import Derived.Test.YtokeielgplbdeaaZ4E2
set_option linter.all false
namespace Go.Proofs.Ytokeielgplbdeaa
open Go.K Go.M
section
variable {n : c8} {m : List Int} {M : Nat} {σ : ox} {N g : Nat} {nE : List Eg} {c : Mk}
theorem GG.edge(h:GG n m M σ N g nE c){e:Eg}(he:e∈nE):jl (wh n e.2.2) (bu σ e.1)=true∧ce (wh n e.2.2) (bu σ e.1)=bu σ e.2.1:=by
 rw[h.eE]at he;obtain⟨x,hx,hxe⟩:=List.mem_map.1 (show e∈σ.2.2.map fun x=>(x.1.toNat,x.2.1.toNat,x.2.2.1.toNat)from he);obtain⟨a,b,t,rfl,h1,h2,h3,h4,h5⟩:=h.ok.mv x hx;subst hxe;simp only[mvA,Int.toNat_natCast];exact⟨h4,h5⟩
theorem GG.mark(h:GG n m M σ N g nE c){i:Nat}(hi:i<N):de n.1 (bu σ i)=true:=h.ok.sp.mks _ (aw [] (by rw[←h.eN];exact hi))
theorem jbq{l:List Eg}{k:Nat}(hk:k<l.length):(qs9 l).getD k 0=((l.getD k (0,0,0)).2.2:Int):=gv _ _ _ _ _ hk
end
abbrev qmf(ts:List af)(l:List Eg):Bool:=l.any fun e=>opT ts e.2.2
theorem q83{ts:List af}(hts:c7 ts ts.length=true)(l:List Eg)(hl:l.length≤1000)(ht:∀e∈l,e.2.2<ts.length):z9 (qs9 l) ts=some (tz (gg ts false) l,tz (gg ts true) l,qmf ts l,true):=by
 have hlen:(qs9 l).length=l.length:=List.length_map _;have hL:qij ts (qs9 l) ((qs9 l).length:Int) (0,0,false,0)=some (.inl (tz (gg ts false) l,tz (gg ts true) l,qmf ts l)):=by
  have eT:l=l.take l.length:=by rw[List.take_length]
  have e3:(some (.inl (tz (gg ts false) l,tz (gg ts true) l,qmf ts l)):Option ((Int×Int×Bool)⊕(Int×Int×Bool×Bool)))=some (.inl (tz (gg ts false) (l.take l.length),tz (gg ts true) (l.take l.length),qmf ts (l.take l.length))):=by rw[←eT]
  rw[e3,hlen];refine iz (fun k:Nat=>(tz (gg ts false) (l.take k),tz (gg ts true) (l.take k),qmf ts (l.take k),(k:Int))) l.length (bh (by omega)) _ (fun k hk=> ?_) ?_ _ (by rfl)
  ·have e1:∀w:Nat→Int,tz w (l.take (k+1))=tz w (l.take k)+w (l.getD k (0,0,0)).2.2:=fun w=>by
    rw[cb l k (0,0,0) hk,qe4,po];simp[tz,qzf]
   have e2:qmf ts (l.take (k+1))=(qmf ts (l.take k)||opT ts (l.getD k (0,0,0)).2.2):=by
    unfold qmf;rw[cb l k (0,0,0) hk,List.any_append];simp
   have hb:∀sl:Bool,0≤tz (gg ts sl) (l.take k)∧tz (gg ts sl) (l.take k)≤1048576*((l.take k).length:Int):=fun sl=>q1s fun e he=>oe hts sl _ (ht e (List.mem_of_mem_take he))
   have hb1:=hb false;have hb2:=hb true;have hlt:(l.take k).length≤1000:=by rw[List.length_take];omega
   rw[e1,e1,e2];have hs:=jbq hk;have htk:=ht _ (aw (0,0,0) hk);have hw1:=oe hts false _ htk;have hw2:=oe hts true _ htk;have hd1:gg ts false (l.getD k (0,0,0)).2.2=(ts.getD (l.getD k (0,0,0)).2.2 af.z).1:=rfl;have hd2:gg ts true (l.getD k (0,0,0)).2.2=(ts.getD (l.getD k (0,0,0)).2.2 af.z).2.1:=rfl;rw[hd1]at hw1⊢;rw[hd2]at hw2⊢;unfold opT;generalize tz (gg ts false) (l.take k)=A at hb1;generalize tz (gg ts true) (l.take k)=B at hb2;generalize(l.getD k (0,0,0)).2.2=t at hs htk hw1 hw2;generalize qmf ts (l.take k)=o;cases o with
   |true=>
    simp only[Bool.true_or];simp(disch:=omega)only[o9,hs,aj,rs]
   |false=>
    simp only[Bool.false_or];simp(disch:=omega)only[o9,hs,aj,rs]
  ·simp(disch:=omega)only[o9,hlen,rs]
 unfold z9;simp(disch:=omega)only[hL,rs]
end Go.Proofs.Ytokeielgplbdeaa
