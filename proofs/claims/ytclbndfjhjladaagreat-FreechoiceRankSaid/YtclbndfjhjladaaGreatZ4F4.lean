/-
  Flow: the program's elimination is elimE.
-/
import Derived.Test.YtclbndfjhjladaaGreatZ4F3
set_option linter.all false
namespace Go.Proofs.YtclbndfjhjladaaGreat
open Go.K Go.M
abbrev zE:br:=([],[])
def uy(n:Nat)(x:br)(S:List br):List br:=S.filter fun r=> !cl n x.2 r.2
theorem q3p(n:Nat)(x:br)(S:List br)(i:Nat)(hi:i<S.length):uy n x (S.take (i+1))=bif cl n x.2 (S.getD i zE).2 then uy n x (S.take i)else uy n x (S.take i)++[S.getD i zE]:=by
 unfold uy;rw[ct S i zE hi,List.filter_append];cases h:cl n x.2 (S.getD i zE).2 with
 |true=>rw[j6c (p:=fun r:br=> !cl n x.2 r.2) (by simp only[h];rfl),List.append_nil];rfl
 |false=>rw[j6d (p:=fun r:br=> !cl n x.2 r.2) (by simp only[h];rfl)];rfl
theorem qle(n:Nat)(x:br)(S:List br)(i:Nat):(uy n x (S.take i)).length≤S.length:=by
 unfold uy;refine Nat.le_trans (List.length_filter_le _ _) ?_;rw[List.length_take];omega
theorem jcp(S:List br)(x:br):lfE S++[x.1]=lfE (S++[x]):=by simp[lfE]
theorem jcx(S:List br)(x:br):mn S++[x.2]=mn (S++[x]):=by simp[mn]
section
variable {n : Nat} (hn : n ≤ 60) (S : List br) (hS : ∀ r ∈ S, r.2.length = n) (hSl : S.length ≤ 100000) (x : br) (hx : x.2.length = n)
include hn in
theorem jct{l:List Int}(h:l.length=n):ni l=some ((msk (fn l) n:Nat):Int):=by
 rw[j05 l (by omega),h]
include hn hS in
theorem qzw{i:Nat}(hi:i<S.length):ni (S.getD i zE).2=some ((msk (fn (S.getD i zE).2) n:Nat):Int):=jct hn (hS _ (ao zE hi))
include hn hS hSl in
theorem jv7(r0:Rw):qoz x.1 x.2 ((msk (fn x.2) n:Nat):Int) ((mn S).length:Int) (mn S) r0 0=some (bif S.any (fun r=>cl n r.2 x.2)then .inr (r0,mn S)else .inl ()):=by
 have e:S.any (fun r=>cl n r.2 x.2)=(mn S).any (fun m=>cl n m x.2):=by unfold mn;rw[List.any_map];rfl
 rw[e];refine f7 (mn S) [] (fun m=>cl n m x.2) (r0,mn S) (by rw[g8];omega) (fun i hi=> ?_) ?_
 ·rw[g8]at hi;have hm:=qzw hn S hS hi;simp(disch:=omega)only[t8,g8,qpf,hm,rs];rw[qkr _ _ hn,ag];cases cl n (S.getD i zE).2 x.2<;>rfl
 ·simp(disch:=omega)only[t8,rs]
include hn hS hSl in
theorem jv8:qo0 x.1 x.2 ((msk (fn x.2) n:Nat):Int) (mn S) ((mn S).length:Int) (lfE S) (mn S) (0,[],[])=some (.inl (lfE (uy n x S),mn (uy n x S))):=by
 have e:uy n x S=uy n x (S.take S.length):=by rw[List.take_length]
 rw[e];refine a9 (fun i:Nat=>((i:Int),lfE (uy n x (S.take i)),mn (uy n x (S.take i)))) S.length (aw (by omega)) _ (fun i hi=> ?_) ?_ _ rfl
 ·have hm:=qzw hn S hS hi;have hk:=qle n x S i;rw[q3p n x S i hi];have ha:=qkr (n:=n) x.2 (S.getD i zE).2 hn;cases hw:cl n x.2 (S.getD i zE).2 with
  |true=>
   rw[hw]at ha;simp(disch:=omega)only[nj,g8,qpf,hm,ha,Bool.not_true,rs];rw[ag]
  |false=>
   rw[hw]at ha;simp(disch:=omega)only[nj,g8,qpf,qe2,jcq,hm,ha,Bool.not_false,rs];rw[ag,jcp,jcx]
 ·simp(disch:=omega)only[nj,g8,rs]
include hn hS hSl in
theorem jv9(r0:Rw):qkz x.1 x.2 ((msk (fn x.2) n:Nat):Int) ((mn S).length:Int) (mn S) r0 (0,[],[])=some (bif S.any (fun r=>cl n r.2 x.2)then .inr (r0,mn S,[],[])else .inl ([],[])):=by
 have e:S.any (fun r=>cl n r.2 x.2)= !(List.range S.length).all (fun i=> !cl n (S.getD i zE).2 x.2):=by
  rw[ja7 S zE (fun r=> !cl n r.2 x.2),Bool.eq_iff_iff];simp
 have h:=fj (step:=fun a:Int×List Int×List Int=>iw (R:=LR (Int×List Int×List Int) (List Int×List Int) (Rw×Rw×List Int×List Int)) x.1 x.2 ((msk (fn x.2) n:Nat):Int) ((mn S).length:Int) (mn S) r0 a.1 a.2.1 a.2.2 (fun a' =>some (.next a')) (fun e=>some (.done e)) (fun r=>some (.ret r)))
  (fun i:Nat=>((i:Int),([]:List Int),([]:List Int))) S.length (aw (by omega)) (fun i=> !cl n (S.getD i zE).2 x.2) ([],[]) (r0,mn S,[],[]) (fun i hi hp=>by
   have hm:=qzw hn S hS hi;have ha:=qkr (n:=n) (S.getD i zE).2 x.2 hn;rw[Bool.not_eq_true']at hp;rw[hp]at ha;simp(disch:=omega)only[iw,g8,qpf,hm,ha,rs];rw[ag]) (fun i hi hp=>by
   have hm:=qzw hn S hS hi;have ha:=qkr (n:=n) (S.getD i zE).2 x.2 hn;rw[Bool.not_eq_false']at hp;rw[hp]at ha;simp(disch:=omega)only[iw,g8,qpf,hm,ha,rs]) (by simp(disch:=omega)only[iw,g8,rs])
 refine h.trans ?_;rw[e];cases(List.range S.length).all (fun i=> !cl n (S.getD i zE).2 x.2)<;>rfl
include hn hS hSl in
theorem jwa:qk0 x.1 x.2 ((msk (fn x.2) n:Nat):Int) (mn S) ((mn S).length:Int) (lfE S) (mn S) (0,[],[],[])=some (.inl (lfE (uy n x S),mn (uy n x S),[])):=by
 have e:uy n x S=uy n x (S.take S.length):=by rw[List.take_length]
 rw[e];refine a9 (fun i:Nat=>((i:Int),lfE (uy n x (S.take i)),mn (uy n x (S.take i)),([]:List Int))) S.length (aw (by omega)) _ (fun i hi=> ?_) ?_ _ rfl
 ·have hm:=qzw hn S hS hi;have hk:=qle n x S i;rw[q3p n x S i hi];have ha:=qkr (n:=n) x.2 (S.getD i zE).2 hn;cases hw:cl n x.2 (S.getD i zE).2 with
  |true=>
   rw[hw]at ha;simp(disch:=omega)only[lu,g8,qpf,hm,ha,Bool.not_true,rs];rw[ag]
  |false=>
   rw[hw]at ha;simp(disch:=omega)only[lu,g8,qpf,qe2,jcq,hm,ha,Bool.not_false,rs];rw[ag,jcp,jcx]
 ·simp(disch:=omega)only[lu,g8,rs]
abbrev BD(l:List Int):Prop:=∀i,-4611686018427387904≤l.getD i 0∧l.getD i 0≤4611686018427387904
theorem jpg{a b:List Int}(ha:BD a)(hb:BD b):BD (a++b):=by
 intro i;by_cases h:i<a.length
 ·have:=jjr (b:=b) h;unfold fn at this;rw[this];exact ha i
 ·have e:i=a.length+(i-a.length):=by omega
  have:=jjs (a:=a) (b:=b) (i:=i-a.length);unfold fn at this;rw[e,this];exact hb _
include hn hS hSl hx in
theorem j5k(hw:x.1.length≤1000)(h1:BD x.1)(h2:BD x.2)(hg:zn (x.1++x.2)≤1):qdg x.1 x.2 (lfE S) (mn S)=some (lfE (qq1 n S x),mn (qq1 n S x)):=by
 have e1:=jxa (x.1++x.2) (by rw[List.length_append];omega) (jpg h1 h2);have e2:=jct hn hx;have e3:=jv7 hn S hS hSl x (lfE S);have e4:=jv8 hn S hS hSl x;have hk:=qle n x S S.length;rw[List.take_length]at hk;unfold qdg qq1;cases ha:S.any (fun r=>cl n r.2 x.2)with
 |true=>
  rw[ha]at e3;simp(disch:=omega)only[vg x.1 (by omega),e1,e2,e3,rs]
 |false=>
  rw[ha,g8]at e3;rw[g8]at e4;simp(disch:=omega)only[vg x.1 (by omega),e1,e2,e3,e4,qe2,g8,rs];rw[jcp,jcx];rfl
include hn hS hSl hx in
theorem jzs:t7 x.1 x.2 (lfE S) (mn S) [] []=some (bif S.any (fun r=>cl n r.2 x.2)then .inr (lfE (qq1 n S x),mn (qq1 n S x),[],[])else .inl (lfE (qq1 n S x),mn (qq1 n S x),[],[])):=by
 have e2:=jct hn hx;have e3:=jv9 hn S hS hSl x (lfE S);have e4:=jwa hn S hS hSl x;have hk:=qle n x S S.length;rw[List.take_length]at hk;unfold t7 zd qq1;cases ha:S.any (fun r=>cl n r.2 x.2)with
 |true=>
  rw[ha]at e3;simp(disch:=omega)only[e2,e3,rs]
 |false=>
  rw[ha,g8]at e3;rw[g8]at e4;simp(disch:=omega)only[e2,e3,e4,qe2,g8,rs];rw[jcp,jcx];rfl
end
theorem jzr{n:Nat}(hn:n≤60)(S:List br)(hS:∀r∈S,r.2.length=n)(hSl:S.length≤100000)(y:br)(hy:y.2.length=n)(hw:y.1.length≤1000)(h1:BD y.1)(h2:BD y.2):
  zc y.1 y.2 (lfE S) (mn S)=some (lfE (qq1 n S (qlo y)),mn (qq1 n S (qlo y)),[],[]):=by
 have e1:=jxa (y.1++y.2) (by rw[List.length_append];omega) (jpg h1 h2);have e5:=jzs hn S hS hSl (qlo y) (by unfold qlo;rw[qrb];exact hy);unfold zc;by_cases hg:(1:Int)<(zn (y.1++y.2):Int)
 ·have d1:=j0j y.1 (zn (y.1++y.2):Int) hg (by omega) h1 y.2 (lfE S) (mn S);have d2:=j0k y.2 (zn (y.1++y.2):Int) hg (by omega) h2 (vj (zn (y.1++y.2)) y.1) (lfE S) (mn S);unfold qlo at e5⊢;cases ha:S.any (fun r=>cl n r.2 (vj (zn (y.1++y.2):Int) y.2))with
  |true=>
   rw[ha]at e5;simp(disch:=omega)only[vg y.1 (by omega),e1,d1,d2,e5,qub,rs]
  |false=>
   rw[ha]at e5;simp(disch:=omega)only[vg y.1 (by omega),e1,d1,d2,e5,qm7,rs]
 ·have n1:qlo y=y:=by
   unfold qlo vj;rw[decide_eq_false hg];rfl
  rw[n1]at e5⊢;cases ha:S.any (fun r=>cl n r.2 y.2)with
  |true=>
   rw[ha]at e5;simp(disch:=omega)only[vg y.1 (by omega),e1,e5,qub,rs]
  |false=>
   rw[ha]at e5;simp(disch:=omega)only[vg y.1 (by omega),e1,e5,qm7,rs]
end Go.Proofs.YtclbndfjhjladaaGreat
