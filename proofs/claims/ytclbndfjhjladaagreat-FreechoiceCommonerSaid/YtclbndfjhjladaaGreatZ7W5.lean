/-
  Siphon: Commoner; the law SiphonCommoner.
-/
import Derived.Test.YtclbndfjhjladaaGreatZ7W4
set_option linter.all false
namespace Go.Proofs.YtclbndfjhjladaaGreat
open Go.K Go.M
theorem j05(l m:List Int)(hl:l.length≤1000000)(hb:∀p∈l,0≤p∧p<m.length):qq6 l m=some (j1a m l):=by
 have hL:yj l m (l.length:Int) 0=some (q38 (fun i=>(i:Int)) (zm (fun p=>decide (0<m.getD p.toNat 0)) l)):=by
  refine kq l 0 (fun p=>decide (0<m.getD p.toNat 0)) (fun i=>(i:Int)) (by omega) (fun i hi=> ?_) ?_
  ·have:=hb _ (bm 0 hi);simp(disch:=omega)only[io,qsy,rs];rw[ar];cases decide (0<m.getD (l.getD i 0).toNat 0)<;>rfl
  ·simp(disch:=omega)only[io,rs]
 unfold qq6 m4 pz j1a;rw[hL,ao,qbc,ao,ao,qfa]
def enN(n:dj)(m:List Int)(i:Nat):List Nat:=(List.range i).filter fun j=>qk (n.2.1.getD j ab.z) m
def enL(n:dj)(m:List Int):List Int:=(enN n m n.2.1.length).map fun(j:Nat)=>(j:Int)
theorem jlc{n:dj}(h:Small n)(m:List Int)(hm:m.length≤1000000):qcw n m=some (bif n5 n&&l4 n.1 m then(0,enL n m)else(1,[])):=by
 unfold qcw;rw[jj2 h m hm];cases hv:n5 n with
 |false=>rfl
 |true=>
  cases hk:l4 n.1 m with
  |false=>rfl
  |true=>
   have hlen:=h.trans;have hL:q3m m n.2.1 (n.2.1.length:Int) (0,[])=some (.inl (enL n m)):=by
    unfold enL;refine qfh (fun i:Nat=>((i:Int),(enN n m i).map fun(j:Nat)=>(j:Int))) n.2.1.length (fg (by omega)) _ (fun i hi=> ?_) ?_ _ rfl
    ·have ht:=bm ab.z hi;have hb:=(qvj.1 (qvp hv ht).1).1;have hml:=(qfi.1 hk).1;have e1:=jwo (n.2.1.getD i ab.z) m (Nat.le_trans (h.ins _ ht) (by omega)) (fun p hp=>by have:=hb p hp;omega);have e2:enN n m (i+1)=bif qk (n.2.1.getD i ab.z) m then enN n m i++[i]else enN n m i:=by
      unfold enN;rw[List.range_succ,List.filter_append];cases hc:qk (n.2.1.getD i ab.z) m with
      |true=>rw[j2x (p:=fun j=>qk (n.2.1.getD j ab.z) m) hc];rfl
      |false=>rw[jws (p:=fun j=>qk (n.2.1.getD j ab.z) m) hc,List.append_nil];rfl
     have hle:((enN n m i).map fun(j:Nat)=>(j:Int)).length≤i:=by
      rw[List.length_map];have:=List.length_filter_le (fun j=>qk (n.2.1.getD j ab.z) m) (List.range i);rw[List.length_range]at this;exact this
     rw[e2];cases hc:qk (n.2.1.getD i ab.z) m with
     |true=>
      rw[hc]at e1;simp only[xt,Int.toNat_natCast,e1,ao];simp(disch:=omega)only[rs];rw[ar,List.map_append];rfl
     |false=>
      rw[hc]at e1;simp only[xt,Int.toNat_natCast,e1,ao];simp(disch:=omega)only[rs];rw[ar]
    ·simp(disch:=omega)only[xt,rs]
   simp only[Bool.and_self,ao,Bool.not_true,cond_false,hL,i6,cond_true]
theorem j1v{n:dj}(h:Small n)(m:List Int)(hm:m.length≤1000000):que n m=some (n5 n&&l4 n.1 m):=by
 unfold que;rw[jlc h m hm];cases n5 n&&l4 n.1 m<;>rfl
noncomputable def q7h(n:dj)(h:Small n)(l:List Int):List Int:= @dite _ (l.length≤1000000) (Classical.propDecidable _) (fun hl=>Classical.choose (jh7 h.T l hl true)) fun _=>[]
theorem jhs{n:dj}(h:Small n)(l:List Int)(hl:l.length≤1000000):tv n l true=some (q7h n h l)∧jle n.2.1 true l (q7h n h l):=by
 unfold q7h;rw[dif_pos hl];exact Classical.choose_spec (jh7 h.T l hl true)
noncomputable def jts(n:dj)(h:Small n)(m l:List Int):Bool:= !j1a m (q7h n h l)
noncomputable def j2e(n:dj)(h:Small n)(m:List Int)(rows:Rw):Bool×List Int×Int:=match zm (jts n h m) rows with|none=>(true,[],0)|some i=>(false,rows.getD i [],0)
section
variable (n : dj) (h : Small n) (m : List Int) (hm : l4 n.1 m = true) (rows : Rw) (hl : rows.length ≤ 1000000) (hr : ∀ i, i < rows.length → (rows.getD i []).length ≤ 1000 ∧ ∀ p ∈ rows.getD i [], 0 ≤ p ∧ p < n.1)
include hm hl hr
theorem j5n:qw8 m rows (rows.length:Int) n.1 n.2.1 n.2.2.1 n.2.2.2.1 0=some (q38 (fun i=>(false,rows.getD i [],0)) (zm (jts n h m) rows)):=by
 refine kq rows [] (jts n h m) (fun i=>(false,rows.getD i [],0)) (by omega) (fun i hi=> ?_) ?_
 ·obtain⟨h1,h2⟩:=hr i hi;obtain⟨e1,hG⟩:=jhs h (rows.getD i []) (by omega);have hml:=(qfi.1 hm).1;have hgl:=j0r hG;have e2:=j05 (q7h n h (rows.getD i [])) m (by omega) (fun p hp=>by have:=h2 p (j0s hG p hp);omega);have e1' :tv (n.1,n.2.1,n.2.2.1,n.2.2.2.1,()) (rows.getD i []) true=_:=e1;unfold jts;simp only[qbg,Int.toNat_natCast,e1',e2,ao];simp(disch:=omega)only[rs];rw[ar];cases j1a m (q7h n h (rows.getD i []))<;>rfl
 ·simp(disch:=omega)only[qbg,rs]
end
section
variable (n : dj) (N : Nat) (hn : n.1 = (N : Int)) (hN : N ≤ 12) (h : Small n) (hv : n5 n = true)
include hn hN
theorem j1n:(srt (fw n N)).length≤1000000∧∀i,i<(srt (fw n N)).length→((srt (fw n N)).getD i []).length≤1000∧∀p∈(srt (fw n N)).getD i [],0≤p∧p<n.1:=by
 have hp:=List.mergeSort_perm (fw n N) (fun x y=> !em y x);have hpw:2 ^ N≤2 ^ 12:=Nat.pow_le_pow_right (by omega) (by omega);have h1:(srt (fw n N)).length=_:=hp.length_eq;have h2:(fw n N).length=_:=List.length_map ..;have h3:=jyt n N (2 ^ N);refine⟨by omega,fun i hi=> ?_⟩;have hm:=hp.mem_iff.1 (bm [] hi);obtain⟨j,_,hj⟩:=List.mem_map.1 hm;have e:(srt (fw n N)).getD i []=jz N j:=hj.symm;rw[e];have:=q41 N j;refine⟨by omega,fun p hp=> ?_⟩;obtain⟨q,hq,_,rfl⟩:=qko.1 hp;omega
include hv
theorem jtg(m:List Int)(hm:l4 n.1 m=true)(hml:m.length≤1000000):qhj n m=some (j2e n h m (srt (fw n N))):=by
 obtain⟨f1,f2⟩:=j1n n N hn hN;have e1:=j1v h m hml;rw[hv,hm]at e1;have e2:=jtk n N hn (by omega) h hv hN;have e3:=j5n n h m hm (srt (fw n N)) f1 f2;unfold qhj j2e;simp only[e1,ao,e2,e3];cases zm (jts n h m) (srt (fw n N))<;>rfl
end
end Go.Proofs.YtclbndfjhjladaaGreat
