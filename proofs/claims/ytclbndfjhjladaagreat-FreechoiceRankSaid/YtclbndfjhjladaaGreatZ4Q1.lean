/-
  Matrices: Valid, and which are too great for the statements.
-/
import Derived.Test.YtclbndfjhjladaaGreatZ4F8
set_option linter.all false
namespace Go.Proofs.YtclbndfjhjladaaGreat
open Go.K Go.M
def qe0(x:Int):Bool:=decide (-1048576≤x)&&decide (x≤1048576)
def qyf(m:List (List Int)):Bool:=decide (1≤m.length)&&decide (m.length≤20)&&decide (1≤(m.getD 0 []).length)&&decide ((m.getD 0 []).length≤20)&&m.all fun r=>decide (r.length=(m.getD 0 []).length)&&r.all qe0
theorem qyx(x:Int):ub x=some (!qe0 x):=by
 unfold ub qe0;by_cases h:x< -1048576
 ·have:¬-1048576≤x:=by omega
  rw[qq5 h,decide_eq_false this];rfl
 ·have h' : -1048576≤x:=by omega
  rw[ji0 h',decide_eq_true h'];by_cases h2:1048576<x
  ·have:¬x≤1048576:=by omega
   rw[decide_eq_true h2,decide_eq_false this];rfl
  ·have:x≤1048576:=by omega
   rw[decide_eq_false h2,decide_eq_true this];rfl
theorem jp1(l:List Int)(hl:l.length≤9223372036854775806):zx l=some (l.all qe0):=by
 obtain⟨o,ho,hq⟩:=jno (step:=fun a=>cj l (l.length:Int) a (fun a' =>some (.next a')) (fun e=>some (.done e)) (fun r=>some (.ret r))) l 0 (fun x=> !qe0 x) hl (fun i hi=>by
  cases he:qe0 (l.getD i 0)with
  |true=>
   simp(disch:=omega)only[cj,qyx,he,Bool.not_true,rs];rw[ag]
  |false=>
   simp(disch:=omega)only[cj,qyx,he,Bool.not_false,rs]) (by simp(disch:=omega)only[cj,rs])
 have ho' :oh l (l.length:Int) 0=some o:=ho;unfold zx gh jf;rw[ho',au];have:(l.all qe0)= !(l.any fun x=> !qe0 x):=by rw[List.not_any_eq_all_not];simp
 rw[this,←hq];cases o<;>rfl
theorem jpe(r:List Int)(m:List (List Int))(h0:0<m.length)(hr:r.length≤9223372036854775806):zw r m=some (!(decide (r.length=(m.getD 0 []).length)&&r.all qe0)):=by
 unfold zw;by_cases h:r.length=(m.getD 0 []).length
 ·have h' :(r.length:Int)=((m.getD 0 []).length:Int):=by omega
  simp(disch:=omega)only[jp1 r hr,rs];rw[decide_eq_true h,Bool.true_and]
 ·have h' :(r.length:Int)≠((m.getD 0 []).length:Int):=by omega
  simp(disch:=omega)only[rs];rw[decide_eq_false h];rfl
theorem jht(m:List (List Int))(hr:∀r∈m,r.length≤9223372036854775806):qgb m=some (qyf m):=by
 unfold qgb qyf;by_cases h1:(m.length:Int)<1
 ·have:¬1≤m.length:=by omega
  simp(disch:=omega)only[rs];rw[decide_eq_false this];rfl
 ·have h1' :1≤m.length:=by omega
  rw[decide_eq_true h1'];by_cases h2:20<(m.length:Int)
  ·have:¬m.length≤20:=by omega
   simp(disch:=omega)only[rs];rw[decide_eq_false this];rfl
  ·have h2' :m.length≤20:=by omega
   rw[decide_eq_true h2'];by_cases h3:((m.getD 0 []).length:Int)<1
   ·have:¬1≤(m.getD 0 []).length:=by omega
    simp(disch:=omega)only[rs];rw[decide_eq_false this];rfl
   ·have h3' :1≤(m.getD 0 []).length:=by omega
    rw[decide_eq_true h3'];by_cases h4:20<((m.getD 0 []).length:Int)
    ·have:¬(m.getD 0 []).length≤20:=by omega
     simp(disch:=omega)only[rs];rw[decide_eq_false this];rfl
    ·have h4' :(m.getD 0 []).length≤20:=by omega
     rw[decide_eq_true h4'];obtain⟨o,ho,hq⟩:=jno (step:=fun a=>ci m m (m.length:Int) a (fun a' =>some (.next a')) (fun e=>some (.done e)) (fun r=>some (.ret r))) m [] (fun r=> !(decide (r.length=(m.getD 0 []).length)&&r.all qe0)) (by omega) (fun i hi=>by
      have hv:=jpe (m.getD i []) m (by omega) (hr _ (ao [] hi));cases he:(decide ((m.getD i []).length=(m.getD 0 []).length)&&(m.getD i []).all qe0)with
      |true=>
       rw[he]at hv;simp(disch:=omega)only[ci,hv,Bool.not_true,rs];rw[ag]
      |false=>
       rw[he]at hv;simp(disch:=omega)only[ci,hv,Bool.not_false,rs]) (by simp(disch:=omega)only[ci,rs])
     have ho' :oe m m (m.length:Int) 0=some o:=ho;simp(disch:=omega)only[gg,je,ho',rs];have:(m.all fun r=>decide (r.length=(m.getD 0 []).length)&&r.all qe0)= !(m.any fun r=> !(decide (r.length=(m.getD 0 []).length)&&r.all qe0)):=by rw[List.not_any_eq_all_not];simp
     rw[this,←hq];cases o<;>rfl
theorem jg2(b:List Int):qgf b=some (decide (1≤b.length)&&decide (b.length≤20)&&b.all qe0):=by
 unfold qgf;by_cases h1:(b.length:Int)<1
 ·have:¬1≤b.length:=by omega
  simp(disch:=omega)only[rs];rw[decide_eq_false this];rfl
 ·have h1' :1≤b.length:=by omega
  rw[decide_eq_true h1'];by_cases h2:20<(b.length:Int)
  ·have:¬b.length≤20:=by omega
   simp(disch:=omega)only[rs];rw[decide_eq_false this];rfl
  ·have h2' :b.length≤20:=by omega
   rw[decide_eq_true h2'];have hloop:qsh b 0=some (bif (List.range b.length).all (fun i=>qe0 (b.getD i 0))then .inl ()else .inr false):=by
    refine fj (fun i:Nat=>(i:Int)) b.length (aw (by omega)) _ () false ?_ ?_ ?_
    ·intro i hi hp;simp only[qe0,Bool.and_eq_true,decide_eq_true_eq]at hp;simp(disch:=omega)only[lm,rs];rw[ag]
    ·intro i hi hp;by_cases h3:b.getD i 0< -1048576
     ·simp(disch:=omega)only[lm,rs]
     ·have h4:1048576<b.getD i 0:=by
       simp only[qe0,Bool.and_eq_false_iff,decide_eq_false_iff_not]at hp;omega
      simp(disch:=omega)only[lm,rs]
    ·simp(disch:=omega)only[lm,rs]
   rw[ja7 b 0 qe0]at hloop;simp(disch:=omega)only[hloop,rs];cases b.all qe0<;>rfl
theorem qob(m:List (List Int)):qi7 m=some (qyf m):=by
 unfold qi7 qyf;by_cases h1:(m.length:Int)<1
 ·have:¬1≤m.length:=by omega
  simp(disch:=omega)only[rs];rw[decide_eq_false this];rfl
 ·have h1' :1≤m.length:=by omega
  rw[decide_eq_true h1'];by_cases h2:20<(m.length:Int)
  ·have:¬m.length≤20:=by omega
   simp(disch:=omega)only[rs];rw[decide_eq_false this];rfl
  ·have h2' :m.length≤20:=by omega
   rw[decide_eq_true h2'];have hloop:qv5 m 0=some (bif (List.range m.length).all (fun i=>decide ((m.getD i []).length=(m.getD 0 []).length)&&(decide (1≤(m.getD i []).length)&&decide ((m.getD i []).length≤20)&&(m.getD i []).all qe0))then .inl ()else .inr false):=by
    refine fj (fun i:Nat=>(i:Int)) m.length (aw (by omega)) _ () false ?_ ?_ ?_
    ·intro i hi hp;rw[Bool.and_eq_true,decide_eq_true_eq]at hp;have hc:=jg2 (m.getD i []);rw[hp.2]at hc;have hp1:=hp.1;simp(disch:=omega)only[nv,hc,Bool.not_true,rs];rw[ag]
    ·intro i hi hp;by_cases h3:(m.getD i []).length=(m.getD 0 []).length
     ·rw[decide_eq_true h3,Bool.true_and]at hp;have hc:=jg2 (m.getD i []);rw[hp]at hc;simp(disch:=omega)only[nv,hc,Bool.not_false,rs]
     ·simp(disch:=omega)only[nv,rs]
    ·simp(disch:=omega)only[nv,rs]
   rw[ja7 m [] (fun r=>decide (r.length=(m.getD 0 []).length)&&(decide (1≤r.length)&&decide (r.length≤20)&&r.all qe0))]at hloop;simp(disch:=omega)only[hloop,rs];have key:(m.all fun r=>decide (r.length=(m.getD 0 []).length)&&(decide (1≤r.length)&&decide (r.length≤20)&&r.all qe0))=(decide (1≤(m.getD 0 []).length)&&decide ((m.getD 0 []).length≤20)&&m.all fun r=>decide (r.length=(m.getD 0 []).length)&&r.all qe0):=by
    rw[Bool.eq_iff_iff];simp only[Bool.and_eq_true,List.all_eq_true,decide_eq_true_eq];constructor
    ·intro h;have h0:=h _ (ao [] (show 0<m.length by omega));exact⟨⟨h0.2.1.1,h0.2.1.2⟩,fun r hr=>⟨(h r hr).1,(h r hr).2.2⟩⟩
    ·rintro⟨⟨h3,h4⟩,h5⟩ r hr;have:=h5 r hr;exact⟨this.1,⟨by omega,by omega⟩,this.2⟩
   rw[key];simp only[Bool.true_and];cases(decide (1≤(m.getD 0 []).length)&&decide ((m.getD 0 []).length≤20)&&m.all fun r=>decide (r.length=(m.getD 0 []).length)&&r.all qe0)<;>rfl
def okL(n:Nat):Prop:=n≤12∨(20<n∧n≤40)
def okM(m:List (List Int)):Prop:=okL m.length∧∀r∈m,okL r.length
theorem okM.row{m:List (List Int)}(h:okM m):∀r∈m,r.length≤9223372036854775806:=fun r hr=>by
 have:=h.2 r hr;unfold okL at this;omega
end Go.Proofs.YtclbndfjhjladaaGreat
