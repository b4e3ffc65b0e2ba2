/-
  Siphon: firing and runs; the law SiphonStays.
-/
import Derived.Test.YtclbndfjhjladaaGreatZ7U3
set_option linter.all false
namespace Go.Proofs.YtclbndfjhjladaaGreat
open Go.K Go.M
def q7g(k:Int):Bool:=decide (k<0)||decide (100<k)
def l4(N:Int)(m:List Int):Bool:=decide ((m.length:Int)=N)&& !m.any q7g
theorem qfi{N:Int}{m:List Int}:l4 N m=true↔(m.length:Int)=N∧∀i,i<m.length→0≤m.getD i 0∧m.getD i 0≤100:=by
 unfold l4;rw[Bool.and_eq_true,decide_eq_true_eq,Bool.not_eq_true',List.any_eq_false];constructor
 ·rintro⟨h1,h2⟩;refine⟨h1,fun i hi=> ?_⟩;have:=h2 _ (bm 0 hi);unfold q7g at this;simp only[Bool.or_eq_true,decide_eq_true_eq,not_or]at this;omega
 ·rintro⟨h1,h2⟩;refine⟨h1,fun x hx=> ?_⟩;obtain⟨i,hi,rfl⟩:=qrr 0 hx;have:=h2 i hi;unfold q7g;simp only[Bool.or_eq_true,decide_eq_true_eq,not_or];omega
theorem qx5(n:dj)(m:List Int)(hm:m.length≤1000000):qcx n m=some (l4 n.1 m):=by
 have hL:q3v m 0=some (bif m.any q7g then .inr false else .inl ()):=by
  refine q15 m 0 q7g false (by omega) (fun i hi=> ?_) ?_
  ·unfold q7g;simp(disch:=omega)only[qfk,rs];rw[ar];cases decide (m.getD i 0<0)<;>cases decide (100<m.getD i 0)<;>rfl
  ·simp(disch:=omega)only[qfk,rs]
 unfold qcx l4;rw[hL];cases decide ((m.length:Int)=n.1)<;>cases m.any q7g<;>rfl
theorem jj2{n:dj}(h:Small n)(m:List Int)(hm:m.length≤1000000):qq1 n m=some (n5 n&&l4 n.1 m):=by
 have hL:yc m (m.length:Int) 0=some (q38 (fun i=>(i:Int)) (zm q7g m)):=by
  refine kq m 0 q7g (fun i=>(i:Int)) (by omega) (fun i hi=> ?_) ?_
  ·unfold q7g;simp(disch:=omega)only[il,qst,rs];rw[ar];cases decide (m.getD i 0<0)<;>cases decide (100<m.getD i 0)<;>rfl
  ·simp(disch:=omega)only[il,rs]
 have hC:ii m=some (m.any q7g):=by
  unfold ii pw;rw[hL,ao,qbc,ao,qfa]
 unfold qq1 l4;rw[jlf h,hC];cases n5 n<;>cases decide ((m.length:Int)=n.1)<;>cases m.any q7g<;>rfl
theorem qvp{n:dj}(hv:n5 n=true){t:ab}(ht:t∈n.2.1):q8i n.1 t.2.1=true∧q8i n.1 t.2.2.1=true:=by
 unfold n5 at hv;simp only[Bool.and_eq_true,Bool.not_eq_true']at hv;have:=List.any_eq_false.1 hv.1.1.2 t ht;unfold jor at this;simp only[Bool.or_eq_true,Bool.not_eq_true',not_or,Bool.not_eq_false]at this;exact⟨this.1.2,this.2⟩
def qk(t:ab)(m:List Int):Bool:= !t.2.1.any fun p=>decide (m.getD p.toNat 0=0)
theorem jwo(t:ab)(m:List Int)(ht:t.2.1.length≤1000000)(hb:∀p∈t.2.1,0≤p∧p<m.length):qq0 t m=some (qk t m):=by
 have hL:ye t.2.1 m (t.2.1.length:Int) 0=some (q38 (fun i=>(i:Int)) (zm (fun p=>decide (m.getD p.toNat 0=0)) t.2.1)):=by
  refine kq t.2.1 0 (fun p=>decide (m.getD p.toNat 0=0)) (fun i=>(i:Int)) (by omega) (fun i hi=> ?_) ?_
  ·have:=hb _ (bm 0 hi);simp(disch:=omega)only[im,qss,rs];rw[ar];cases decide (m.getD (t.2.1.getD i 0).toNat 0=0)<;>rfl
  ·simp(disch:=omega)only[im,rs]
 unfold qq0 mz px qk;rw[hL,ao,qbc,ao,ao,qfa]
def j1a(m l:List Int):Bool:=l.any fun p=>decide (0<m.getD p.toNat 0)
end Go.Proofs.YtclbndfjhjladaaGreat
