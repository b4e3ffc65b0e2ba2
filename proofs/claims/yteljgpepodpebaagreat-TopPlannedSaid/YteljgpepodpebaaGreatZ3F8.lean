/-
  The tableau at the beginning.
-/
import Derived.Test.YteljgpepodpebaaGreatZ3F7
import Derived.KernelRfl
set_option linter.all false
namespace Go.Proofs.YteljgpepodpebaaGreat
open Go.K Go.M
theorem jgg:qio=some true:=by kernel_rfl
def jna(p:Nat→Bool):Nat→Bool
 |0=>true
 |n+1=>jna p n&&p n
theorem ja9{p:Nat→Bool}:∀{n:Nat},jna p n=true→∀i,i<n→p i=true
 |n+1,h,i,hi=>by
  simp only[jna,Bool.and_eq_true]at h;by_cases e:i=n
  ·rw[e];exact h.2
  ·exact ja9 h.1 i (by omega)
def jsw(x:Int)(n:Nat):Bool:=decide (br [(x,1,())] (n:Int)=some (List.replicate n (x,1,())))
theorem jai:(jna (jsw 0) 40&&jna (jsw 1) 40)=true:=by kernel_rfl
theorem jyi{n:Nat}(h:n<40):br [(0,1,())] (n:Int)=some (List.replicate n (0,1,())):=by
 have:=jai;simp only[Bool.and_eq_true]at this;exact of_decide_eq_true (ja9 this.1 n h)
theorem j7f{n:Nat}(h:n<40):br [(1,1,())] (n:Int)=some (List.replicate n (1,1,())):=by
 have:=jai;simp only[Bool.and_eq_true]at this;exact of_decide_eq_true (ja9 this.2 n h)
theorem qgi{n:Nat}(h:n<40):ep (n:Int)=some (List.replicate n (0,1,())):=by
 unfold ep;rw[show c9 0=some (0,1,())from rfl,af,jyi h];rfl
theorem nf0:NF (0,1,()):=nu (by omega) (by omega)
theorem nf1:NF (1,1,()):=nu (by omega) (by omega)
theorem fv0:fv (0,1,())=0:=by rw[nk];rfl
theorem fv1:fv (1,1,())=1:=by rw[nk];rfl
structure VP (p : Program) : Prop where
 n0 : 1 ≤ p.1.length
 n1 : p.1.length ≤ 12
 m0 : 1 ≤ p.2.1.length
 m1 : p.2.1.length ≤ 12
 rl : p.2.2.1.length = p.2.1.length
 bl : p.2.2.2.1.length = p.2.1.length
 cn : ∀ j, j < p.1.length → NF (gz p.1 j)
 bn : ∀ i, i < p.2.1.length → NF (gz p.2.2.2.1 i)
 al : ∀ i, i < p.2.1.length → (ci p.2.1 i).length = p.1.length
 an : ∀ i j, i < p.2.1.length → j < p.1.length → NF (gz (ci p.2.1 i) j)
def qjh(n m i:Nat)(a:List ab)(rel:Int):List ab:=
 bif decide (rel=1)then(a++List.replicate (2*m) ((0,1,()):ab)).set (n+i) (1,1,())
 else bif decide (rel=2)then(a++List.replicate (2*m) ((0,1,()):ab)).set (n+i) (-1,1,())
 else a++List.replicate (2*m) ((0,1,()):ab)
def jc3(n m i:Nat)(a:List ab)(rel:Int)(b:ab):List ab:=bif decide (b.1<0)then(qjh n m i a rel++[b]).map qun else qjh n m i a rel++[b]
def q5p(n m i:Nat)(a:List ab)(rel:Int)(b:ab):List ab:=(jc3 n m i a rel b).set (n+m+i) (1,1,())
section
variable {n m i : Nat} {a : List ab} {rel : Int} {b : ab}
theorem qos{l:List ab}{j k:Nat}{x:ab}:gz (l.set j x) k=if k=j∧j<l.length then x else gz l k:=by
 simp only[gz,List.getD_eq_getElem?_getD,List.getElem?_set];by_cases h:j=k
 ·subst h;by_cases h2:j<l.length
  ·simp[h2]
  ·simp[h2,List.getElem?_eq_none (Nat.le_of_not_lt h2)]
 ·rw[if_neg h,if_neg (fun e=>h e.1.symm)]
theorem jbx{l:List ab}{x:ab}{k:Nat}:gz (l++[x]) k=if k<l.length then gz l k else if k=l.length then x else ab.z:=by
 simp only[gz,List.getD_eq_getElem?_getD,List.getElem?_append];by_cases h:k<l.length
 ·rw[if_pos h,if_pos h]
 ·rw[if_neg h,if_neg h];by_cases h2:k=l.length
  ·rw[if_pos h2,h2,Nat.sub_self];rfl
  ·rw[if_neg h2,List.getElem?_eq_none (by simp;omega)];rfl
theorem jby{l:List ab}{k:Nat}(h:k<l.length):gz (l.map qun) k=qun (gz l k):=by
 simp only[gz,List.getD_eq_getElem?_getD,List.getElem?_map];rw[List.getElem?_eq_getElem h];rfl
theorem qcv(ha:a.length=n):(qjh n m i a rel).length=n+2*m:=by
 unfold qjh;cases decide (rel=1)<;>cases decide (rel=2)<;>simp[ha]
theorem jiw(ha:a.length=n){j:Nat}:gz (a++List.replicate (2*m) ((0,1,()):ab)) j=if j<n then gz a j else if j<n+2*m then(0,1,())else ab.z:=by
 simp only[gz,List.getD_eq_getElem?_getD,List.getElem?_append,ha];by_cases h:j<n
 ·rw[if_pos h,if_pos h]
 ·rw[if_neg h,if_neg h,List.getElem?_replicate];by_cases h2:j<n+2*m
  ·rw[if_pos h2,if_pos (by omega)];rfl
  ·rw[if_neg h2,if_neg (by omega)];rfl
theorem jrt(ha:a.length=n)(hn:∀j,j<n→NF (gz a j))(hi:i<m){j:Nat}(hj:j<n+2*m):NF (gz (qjh n m i a rel) j):=by
 have hb:NF (gz (a++List.replicate (2*m) ((0,1,()):ab)) j):=by
  rw[jiw ha];split
  ·exact hn j (by omega)
  ·first|exact nf0|(rw[if_pos hj];exact nf0)
 unfold qjh;cases decide (rel=1)with
 |true=>rw[cond_true,qos];split;exact nf1;exact hb
 |false=>
  cases decide (rel=2)with
  |true=>rw[cond_false,cond_true,qos];split;exact nu (by omega) (by omega);exact hb
  |false=>exact hb
theorem jyl(ha:a.length=n){l:Nat}(hi:i<m)(hl:l<m):gz (qjh n m i a rel) (n+m+l)=(0,1,()):=by
 have hb:gz (a++List.replicate (2*m) ((0,1,()):ab)) (n+m+l)=(0,1,()):=by rw[jiw ha,if_neg (by omega),if_pos (by omega)]
 unfold qjh;cases decide (rel=1)with
 |true=>rw[cond_true,qos,if_neg (by omega)];exact hb
 |false=>
  cases decide (rel=2)with
  |true=>rw[cond_false,cond_true,qos,if_neg (by omega)];exact hb
  |false=>exact hb
theorem jpv(ha:a.length=n):(jc3 n m i a rel b).length=n+2*m+1:=by
 unfold jc3;cases decide (b.1<0)<;>simp[qcv ha]
theorem jnd(ha:a.length=n)(hn:∀j,j<n→NF (gz a j))(hb:NF b)(hi:i<m){j:Nat}(hj:j<n+2*m+1):NF (gz (qjh n m i a rel++[b]) j):=by
 rw[jbx,qcv ha];split
 ·exact jrt ha hn hi (by omega)
 ·rw[if_pos (by omega)];exact hb
theorem jru(ha:a.length=n)(hn:∀j,j<n→NF (gz a j))(hb:NF b)(hi:i<m){j:Nat}(hj:j<n+2*m+1):NF (gz (jc3 n m i a rel b) j):=by
 have h:=jnd (rel:=rel) ha hn hb hi hj;unfold jc3;cases decide (b.1<0)with
 |true=>rw[cond_true,jby (by simp[qcv ha];omega)];exact h.neg
 |false=>exact h
theorem jrv(ha:a.length=n)(hn:∀j,j<n→NF (gz a j))(hb:NF b)(hi:i<m):
  (q5p n m i a rel b).length=n+2*m+1∧(∀j,j<n+2*m+1→NF (gz (q5p n m i a rel b) j))∧fv (gz (q5p n m i a rel b) (n+m+i))=1∧(∀l,l<m→l≠i→fv (gz (q5p n m i a rel b) (n+m+l))=0)∧0≤fv (gz (q5p n m i a rel b) (n+2*m)):=by
 have hl:=jpv (m:=m) (i:=i) (rel:=rel) (b:=b) ha;unfold q5p;refine⟨by simp[hl],fun j hj=> ?_,?_,fun l hlm hli=> ?_,?_⟩
 ·rw[qos];split
  ·exact nf1
  ·exact jru ha hn hb hi hj
 ·rw[qos,if_pos ⟨rfl,by omega⟩];exact fv1
 ·rw[qos,if_neg (by omega)];have h1:gz (qjh n m i a rel++[b]) (n+m+l)=(0,1,()):=by rw[jbx,qcv ha,if_pos (by omega),jyl ha hi hlm]
  unfold jc3;cases decide (b.1<0)with
  |true=>rw[cond_true,jby (by simp[qcv ha];omega),h1,jbv,fv0];rfl
  |false=>rw[cond_false,h1];exact fv0
 ·rw[qos,if_neg (by omega)];have h1:gz (qjh n m i a rel++[b]) (n+2*m)=b:=by rw[jbx,qcv ha,if_neg (by omega),if_pos rfl]
  unfold jc3;by_cases h0:b.1<0
  ·have:=(wg hb).1 h0;rw[bi h0,jby (by simp[qcv ha]),h1,jbv]
   grind
  ·have:¬fv b<0:=fun h=>h0 ((wg hb).2 h)
   rw[bj (by omega),h1];exact Rat.not_lt.1 this
end
theorem jo7{x1 x2 x3:Int}{x4:List (List ab)}{x5 x6:Int}{x7:List ab}{x8:List (List ab)}{x9:List Int}{xa xb:List ab}{xc xd:Int}{xe:List Bool}{xf:List (List ab)}{xg:List Int}(l:List ab)(hl:l.length≤100000)(hn:∀j,j<l.length→NF (gz l j)):
  qdm x1 x2 x3 x4 x5 x6 (l.length:Int) x7 x8 x9 xa xb xc xd xe xf xg (0,l)=some (.inl (l.map qun)):=by
 refine j9 (fun i=>((i:Int),be l.length fun v=>if v<i then qun (gz l v)else gz l v)) l.length (cr (by omega)) _ (fun i hi=> ?_) ?_ _ ?_
 ·have h1:=db l.length (fun v=>if v<i then qun (gz l v)else gz l v);have h2:(be l.length fun v=>if v<i then qun (gz l v)else gz l v).getD i ab.z=gz l i:=by rw[em hi,if_neg (by omega)]
  have h3:=hn i hi;have h4:=h3.n0;have h5:=h3.n1;unfold tu;simp(disch:=omega)only[h1,rs];rw[h2,qoy (by omega) (by omega),af];rw[q21,am];refine congrArg (fun x=>some (LR.next (((i+1:Nat):Int),x))) (ua fun v hv=> ?_);by_cases e:v=i
  ·rw[if_pos e,if_pos (by omega),e]
  ·rw[if_neg e];by_cases e2:v<i
   ·rw[if_pos e2,if_pos (by omega)]
   ·rw[if_neg e2,if_neg (by omega)]
 ·have h1:=db l.length (fun v=>if v<l.length then qun (gz l v)else gz l v);unfold tu;simp(disch:=omega)only[h1,rs];refine congrArg (fun x=>some (LR.done x)) ?_;rw[jp9 (l.map qun) ab.z,List.length_map];exact ua fun v hv=>by rw[if_pos hv];exact(jby hv).symm
 ·refine congrArg (fun x=>((0:Int),x)) ?_;exact(jp9 l ab.z).trans (ua fun v hv=>by rw[if_neg (by omega)])
end Go.Proofs.YteljgpepodpebaaGreat
