/-
  Freechoice: classes by uniting: root and unite.
-/
import Derived.Test.YtclbndfjhjladaaGreatZ4X6
import Derived.Test.YtclbndfjhjladaaGreatZ4G1
set_option linter.all false
namespace Go.Proofs.YtclbndfjhjladaaGreat
open Go.K Go.M
theorem Rep.root{c p:Nat→Nat}(hc:Rep c)(h:UF p c)(z:Nat):p (c z)=c z:=by
 have h1:=hc.idem z;have h2:=h.par (c z);have h3:=h.le (c z);have h4:=hc.le (p (c z));omega
abbrev pL(N:Nat)(p:Nat→Nat):List Int:=bh N fun z=>(p z:Int)
theorem jyc{N:Nat}{p:Nat→Nat}(i x:Nat):(pL N p).set i (x:Int)=pL N (jag p i x):=by
 rw[ml];refine bp fun v _=> ?_
 unfold jag;split<;>rfl
theorem j2q{N:Nat}{p:Nat→Nat}{i:Nat}(h:i<N):(pL N p).getD i 0=(p i:Int):=di h
theorem qcl(N:Nat)(p:Nat→Nat):(pL N p).length=N:=bn _ _
section
variable {N : Nat} (hN : N ≤ 1000) {c : Nat → Nat} (hc : Rep c) (P : Int)
include hN hc
theorem q13{p:Nat→Nat}(h:UF p c){i:Nat}(hi:i<N):∃p',UF p' c∧cd (i:Int) P (pL N p)=some ((c i:Int),P,pL N p'):=by
 have hL:∃o,uv P ((i:Int),pL N p)=some o∧∃p',UF p' c∧o= .inl ((c i:Int),pL N p'):=by
  refine da (fun(s:Int×List Int)=>∃(j:Nat) (q:Nat→Nat),s=((j:Int),pL N q)∧UF q c∧j<N∧c j=c i) (fun s=>s.1.toNat) _ _ ⟨i,p,rfl,h,hi,rfl⟩ (by unfold many;simp;omega) ?_;rintro _ ⟨j,q,rfl,hq,hj,hcj⟩;have hle:=hq.le j;have hle2:=hq.le (q j);by_cases hr:q j=j
  ·refine⟨.done ((j:Int),pL N q),?_,q,hq,?_⟩
   ·simp(disch:=omega)only[fy,qcl,j2q,hr,rs]
   ·rw[←hcj,hq.root j hr]
  ·refine⟨.next ((q (q j):Nat),pL N (jag q j (q (q j)))),?_,⟨_,_,rfl,hq.halve hr,by omega,by rw[hq.par,hq.par,hcj]⟩,?_⟩
   ·simp(disch:=omega)only[fy,qcl,j2q,jyc,jag,if_true,rs]
   ·simp only[Int.toNat_natCast];omega
 obtain⟨_,ho,p',hp',rfl⟩:=hL;refine⟨p',hp',?_⟩;unfold cd;rw[ho];rfl
theorem jzc{p:Nat→Nat}(h:UF p c)(hP:0≤P){x t:Nat}(hx:x<N)(ht:P.toNat+t<N):
  ∃p',UF p' (mrg c (x,P.toNat+t))∧cm (x:Int) (t:Int) P (pL N p)=some (P,pL N p'):=by
 obtain⟨p1,h1,e1⟩:=q13 hN hc P h hx;obtain⟨p2,h2,e2⟩:=q13 hN hc P h1 ht;have l1:=hc.le x;have l2:=hc.le (P.toNat+t);refine⟨_,h2.unite (e:=(x,P.toNat+t)) (Rep.root hc h2 _) (Rep.root hc h2 _),?_⟩;have ep:P+(t:Int)=((P.toNat+t:Nat):Int):=by omega
 unfold cm;rw[ep,e1];simp only[au];rw[e2];simp only[au,qcl,decide_true,ls];rw[show max (c x:Int) (c (P.toNat+t):Int)=((max (c x) (c (P.toNat+t)):Nat):Int) by omega,show min (c x:Int) (c (P.toNat+t):Int)=((min (c x) (c (P.toNat+t)):Nat):Int) by omega];simp(disch:=omega)only[qcl,jyc,rs]
end
theorem qvm(n:ca)(h1:0≤n.1∧n.1≤100)(h2:n.2.1.length≤100):gn n=some (n.1,pL (n.1.toNat+n.2.1.length) id):=by
 have eN:Int.toNat (n.1+(n.2.1.length:Int))=n.1.toNat+n.2.1.length:=by omega
 unfold gn;rw[eN];generalize hN:n.1.toNat+n.2.1.length=N;have hL:x8 ((List.replicate N (0:Int)).length:Int) n.1 (0,List.replicate N (0:Int))=some (.inl (pL N id)):=by
  rw[List.length_replicate,qa9];refine a9 (fun i=>((i:Int),bh N fun z=>if z<i then(z:Int)else 0)) N (aw (by omega)) _ (fun i hi=> ?_) ?_ _ ?_
  ·have el:(bh N fun z=>if z<i then(z:Int)else 0).length=N:=bn _ _;simp(disch:=omega)only[ia,el,ml,ag,rs];congr 3;refine bp fun v _=> ?_
   by_cases e:v=i
   ·rw[if_pos e,if_pos (by omega),e]
   ·rw[if_neg e];by_cases e2:v<i
    ·rw[if_pos e2,if_pos (by omega)]
    ·rw[if_neg e2,if_neg (by omega)]
  ·simp(disch:=omega)only[ia,rs];congr 2;exact bp fun v hv=>if_pos hv
  ·congr 1
 rw[hL];simp(disch:=omega)only[rs]
end Go.Proofs.YtclbndfjhjladaaGreat
