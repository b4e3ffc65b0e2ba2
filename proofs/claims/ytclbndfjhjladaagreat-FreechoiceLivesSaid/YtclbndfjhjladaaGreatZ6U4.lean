/-
  Siphon: firing and runs; the law SiphonStays.
-/
import Derived.Test.YtclbndfjhjladaaGreatZ6U3
set_option linter.all false
namespace Go.Proofs.YtclbndfjhjladaaGreat
open Go.K Go.M
def q4b(k:Int):Bool:=decide (k<0)||decide (100<k)
def qqk(N:Int)(m:List Int):Bool:=decide ((m.length:Int)=N)&& !m.any q4b
theorem jch{N:Int}{m:List Int}:qqk N m=true↔(m.length:Int)=N∧∀i,i<m.length→0≤m.getD i 0∧m.getD i 0≤100:=by
 unfold qqk;rw[Bool.and_eq_true,decide_eq_true_eq,Bool.not_eq_true',List.any_eq_false];constructor
 ·rintro⟨h1,h2⟩;refine⟨h1,fun i hi=> ?_⟩;have:=h2 _ (cr 0 hi);unfold q4b at this;simp only[Bool.or_eq_true,decide_eq_true_eq,not_or]at this;omega
 ·rintro⟨h1,h2⟩;refine⟨h1,fun x hx=> ?_⟩;obtain⟨i,hi,rfl⟩:=qvu 0 hx;have:=h2 i hi;unfold q4b;simp only[Bool.or_eq_true,decide_eq_true_eq,not_or];omega
theorem jnb(n:ff)(m:List Int)(hm:m.length≤1000000):qn4 n m=some (qqk n.1 m):=by
 have hL:qzu m 0=some (bif m.any q4b then .inr false else .inl ()):=by
  refine qb2 m 0 q4b false (by omega) (fun i hi=> ?_) ?_
  ·unfold q4b;simp(disch:=omega)only[qc4,ba,aj,ai,ar,ax,bc,a8,am,a7,al,az,ak,a9,ao,aq,af,ae,ag,au,ay,Int.toNat_natCast,decide_true];rw[bq];cases decide (m.getD i 0<0)<;>cases decide (100<m.getD i 0)<;>rfl
  ·simp(disch:=omega)only[qc4,ba,aj,ai,ar,ax,bc,a8,am,a7,al,az,ak,a9,ao,aq,af,ae,ag,au,ay,Int.toNat_natCast,decide_true]
 unfold qn4 qqk;rw[hL];cases decide ((m.length:Int)=n.1)<;>cases m.any q4b<;>rfl
theorem jgy{n:ff}(h:Small n)(m:List Int)(hm:m.length≤1000000):qn2 n m=some (zw n&&qqk n.1 m):=by
 have hL:v5 m (m.length:Int) 0=some (q6l (fun i=>(i:Int)) (qas q4b m)):=by
  refine ny m 0 q4b (fun i=>(i:Int)) (by omega) (fun i hi=> ?_) ?_
  ·unfold q4b;simp(disch:=omega)only[ij,qpq,ba,aj,ai,ar,ax,bc,a8,am,a7,al,az,ak,a9,ao,aq,af,ae,ag,au,ay,Int.toNat_natCast,decide_true];rw[bq];cases decide (m.getD i 0<0)<;>cases decide (100<m.getD i 0)<;>rfl
  ·simp(disch:=omega)only[ij,ba,aj,ai,ar,ax,bc,a8,am,a7,al,az,ak,a9,ao,aq,af,ae,ag,au,ay,Int.toNat_natCast,decide_true]
 have hC:ig m=some (m.any q4b):=by
  unfold ig ot;rw[hL,ag,qiv,ag,qny]
 unfold qn2 qqk;rw[jir h,hC];cases zw n<;>cases decide ((m.length:Int)=n.1)<;>cases m.any q4b<;>rfl
theorem jl7{n:ff}(hv:zw n=true){t:ab}(ht:t∈n.2.1):q45 n.1 t.2.1=true∧q45 n.1 t.2.2.1=true:=by
 unfold zw at hv;simp only[Bool.and_eq_true,Bool.not_eq_true']at hv;have:=List.any_eq_false.1 hv.1.1.2 t ht;unfold jmc at this;simp only[Bool.or_eq_true,Bool.not_eq_true',not_or,Bool.not_eq_false]at this;exact⟨this.1.2,this.2⟩
def joz(t:ab)(m:List Int):Bool:= !t.2.1.any fun p=>decide (m.getD p.toNat 0=0)
theorem jtv(t:ab)(m:List Int)(ht:t.2.1.length≤1000000)(hb:∀p∈t.2.1,0≤p∧p<m.length):qn1 t m=some (joz t m):=by
 have hL:v7 t.2.1 m (t.2.1.length:Int) 0=some (q6l (fun i=>(i:Int)) (qas (fun p=>decide (m.getD p.toNat 0=0)) t.2.1)):=by
  refine ny t.2.1 0 (fun p=>decide (m.getD p.toNat 0=0)) (fun i=>(i:Int)) (by omega) (fun i hi=> ?_) ?_
  ·have:=hb _ (cr 0 hi);simp(disch:=omega)only[il,qpp,ba,aj,ai,ar,ax,bc,a8,am,a7,al,az,ak,a9,ao,aq,af,ae,ag,au,ay,Int.toNat_natCast,decide_true];rw[bq];cases decide (m.getD (t.2.1.getD i 0).toNat 0=0)<;>rfl
  ·simp(disch:=omega)only[il,ba,aj,ai,ar,ax,bc,a8,am,a7,al,az,ak,a9,ao,aq,af,ae,ag,au,ay,Int.toNat_natCast,decide_true]
 unfold qn1 l6 ou joz;rw[hL,ag,qiv,ag,ag,qny]
def jue(m l:List Int):Bool:=l.any fun p=>decide (0<m.getD p.toNat 0)
theorem jwt(m l:List Int)(hl:l.length≤1000000)(hb:∀p∈l,0≤p∧p<m.length):qq2 m l=some (jue m l):=by
 have hL:q3b m l 0=some (bif l.any (fun p=>decide (0<m.getD p.toNat 0))then .inr true else .inl ()):=by
  refine qb2 l 0 (fun p=>decide (0<m.getD p.toNat 0)) true (by omega) (fun i hi=> ?_) ?_
  ·have:=hb _ (cr 0 hi);simp(disch:=omega)only[qe9,ba,aj,ai,ar,ax,bc,a8,am,a7,al,az,ak,a9,ao,aq,af,ae,ag,au,ay,Int.toNat_natCast,decide_true];rw[bq];cases decide (0<m.getD (l.getD i 0).toNat 0)<;>rfl
  ·simp(disch:=omega)only[qe9,ba,aj,ai,ar,ax,bc,a8,am,a7,al,az,ak,a9,ao,aq,af,ae,ag,au,ay,Int.toNat_natCast,decide_true]
 unfold qq2 jue;rw[hL,ag];cases l.any (fun p=>decide (0<m.getD p.toNat 0))<;>rfl
end Go.Proofs.YtclbndfjhjladaaGreat
