/-
  Migrate: certificates go together.
-/
import Derived.Test.YtdhfhpdadbopkaaZ4M5
set_option linter.all false
namespace Go.Proofs.Ytdhfhpdadbopkaa
open Go.K Go.M
def qbs(p:Pr)(l:List Pr):List Pr:=(l.filter fun q=>decide (p.2.1=q.1)).map fun q=>(p.1,q.2.1,())
def tv(l1 l2:List Pr):List Pr:=l1.flatMap fun p=>qbs p l2
theorem qu2(p:Pr)(l:List Pr):(qbs p l).length≤l.length:=by
 unfold qbs;rw[List.length_map];exact List.length_filter_le _ _
theorem q0q(p:Pr)(l:List Pr)(q:Pr):qbs p (l++[q])=if p.2.1=q.1 then qbs p l++[(p.1,q.2.1,())]else qbs p l:=by
 unfold qbs;rw[List.filter_append];split
 ·rename_i h;rw[qv1 (by exact decide_eq_true h),List.map_append];rfl
 ·rename_i h;rw[qv0 (by exact decide_eq_false h),List.append_nil]
theorem qjl(l2:List Pr):∀l1:List Pr,(tv l1 l2).length≤l1.length*l2.length
 |[]=>by simp[tv]
 |p::l1=>by
  have h1:=qjl l2 l1;have h2:=qu2 p l2;have e:tv (p::l1) l2=qbs p l2++tv l1 l2:=by unfold tv;rw[List.flatMap_cons]
  rw[e,List.length_append,List.length_cons,Nat.succ_mul];omega
theorem zx{l1 l2:List Pr}{r:Pr}:r∈tv l1 l2↔∃p∈l1,∃q∈l2,p.2.1=q.1∧r=(p.1,q.2.1,()):=by
 unfold tv qbs;simp only[List.mem_flatMap,List.mem_map,List.mem_filter,decide_eq_true_iff];constructor
 ·rintro⟨p,hp,q,⟨hq,h⟩,e⟩;exact⟨p,hp,q,hq,h,e.symm⟩
 ·rintro⟨p,hp,q,hq,h,e⟩;exact⟨p,hp,q,⟨hq,h⟩,e.symm⟩
theorem qhv{l:List Pr}{x y:List Int}:inB l x y=true↔∃p∈l,p.1=x∧p.2.1=y:=by
 unfold inB;rw[List.any_eq_true];simp only[Bool.and_eq_true,decide_eq_true_iff]
theorem qup{l1 l2:List Pr}{x z:List Int}:inB (tv l1 l2) x z=true↔∃y,inB l1 x y=true∧inB l2 y z=true:=by
 rw[qhv];constructor
 ·rintro⟨r,hr,h1,h2⟩;obtain⟨p,hp,q,hq,e,rfl⟩:=zx.1 hr;exact⟨p.2.1,qhv.2 ⟨p,hp,h1,rfl⟩,qhv.2 ⟨q,hq,e.symm,h2⟩⟩
 ·rintro⟨y,h1,h2⟩;obtain⟨p,hp,e1,e2⟩:=qhv.1 h1;obtain⟨q,hq,e3,e4⟩:=qhv.1 h2;exact⟨_,zx.2 ⟨p,hp,q,hq,e2.trans e3.symm,rfl⟩,e1,e4⟩
theorem qui{a b c:ByteArray}(h:eqS a b=true)(h' :eqS b c=true):eqS a c=true:=beq_iff_eq.2 ((beq_iff_eq.1 h).trans (beq_iff_eq.1 h'))
theorem q43{a b:ByteArray}(h:eqS a b=true):eqS b a=true:=beq_iff_eq.2 (beq_iff_eq.1 h).symm
theorem qye{old new:a8}{f:List Int→List Int→Bool}{x y:List Int}(h:qbd old new f x y=true)(he:x=qpe old):y=qpe new:=by
 rw[qrd,Bool.and_eq_true,decide_eq_true he]at h;simpa using h.1
theorem qun{old new:a8}{f:List Int→List Int→Bool}{x y:List Int}(h:qbd old new f x y=true){t:Nat}(ht:t<old.2.1.length)(hc:xn (old.2.1.getD t ae.z) x=true):
  okB old x t=true∧((q3t old t=true∧f (mo old x t).2 y=true)∨∃u,u<new.2.1.length∧eqS (qb4 new u) (qb4 old t)=true∧okB new y u=true∧f (mo old x t).2 (mo new y u).2=true):=by
 rw[qrd,Bool.and_eq_true,List.all_eq_true]at h;have:=h.2 t (List.mem_range.2 ht);unfold q55 at this;rw[hc,Bool.not_true,Bool.false_or,Bool.and_eq_true]at this;refine⟨this.1,?_⟩;have h2:=this.2;unfold qqr at h2;rw[q1g,Bool.or_eq_true,Bool.and_eq_true,List.any_eq_true]at h2;rcases h2 with⟨g1,g2⟩|⟨u,hu,g⟩
 ·exact .inl ⟨g1,g2⟩
 ·rw[Bool.and_eq_true,Bool.and_eq_true]at g;exact .inr ⟨u,List.mem_range.1 hu,g.1,g.2.1,g.2.2⟩
theorem q7s{old new:a8}{f:List Int→List Int→Bool}{x y:List Int}(he:x=qpe old→y=qpe new)
  (hs:∀t,t<old.2.1.length→xn (old.2.1.getD t ae.z) x=true→okB old x t=true∧((q3t old t=true∧f (mo old x t).2 y=true)∨∃u,u<new.2.1.length∧eqS (qb4 new u) (qb4 old t)=true∧okB new y u=true∧f (mo old x t).2 (mo new y u).2=true)):
  qbd old new f x y=true:=by
 rw[qrd,Bool.and_eq_true,List.all_eq_true];constructor
 ·by_cases h:x=qpe old
  ·rw[decide_eq_true (he h)];simp
  ·rw[decide_eq_false h];rfl
 ·intro t ht;unfold q55;cases hc:xn (old.2.1.getD t ae.z) x with
  |false=>rfl
  |true=>
   obtain⟨g1,g2⟩:=hs t (List.mem_range.1 ht) hc;rw[g1,Bool.not_true,Bool.false_or,Bool.true_and];unfold qqr;rw[q1g,Bool.or_eq_true,Bool.and_eq_true,List.any_eq_true];rcases g2 with⟨k1,k2⟩|⟨u,hu,k1,k2,k3⟩
   ·exact .inl ⟨k1,k2⟩
   ·exact .inr ⟨u,List.mem_range.2 hu,by rw[Bool.and_eq_true,Bool.and_eq_true];exact⟨k1,k2,k3⟩⟩
theorem q0b{a b c:a8}{f g h:List Int→List Int→Bool}(hh:∀x y z,f x y=true→g y z=true→h x z=true){x y z:List Int}(h1:qbd a b f x y=true)(h2:qbd b c g y z=true)(hg:g y z=true):qbd a c h x z=true:=by
 refine q7s (fun e=>qye h2 (qye h1 e)) fun t ht hc=> ?_
 obtain⟨g1,g2⟩:=qun h1 ht hc;refine⟨g1,?_⟩;rcases g2 with⟨k1,k2⟩|⟨u,hu,k1,k2,k3⟩
 ·exact .inl ⟨k1,hh _ _ _ k2 hg⟩
 ·obtain⟨_,g4⟩:=qun h2 hu (qwq k2);rcases g4 with⟨j1,j2⟩|⟨v,hv,j1,j2,j3⟩
  ·exact .inl ⟨qui (q43 k1) j1,hh _ _ _ k3 j2⟩
  ·exact .inr ⟨v,hv,qui j1 k1,j2,hh _ _ _ k3 j3⟩
theorem qzl{a b c:a8}{run:List Int}{m n:ck}(h1:Cert a b run m)(h2:Cert b c m.2.1 n):Cert a c run (n.1,n.2.1,tv m.2.2.1 n.2.2.1,()):=by
 obtain⟨x0,v,w,a1,a2,a3,a4⟩:=h1.hist;obtain⟨y0,v',w',c1,c2,c3,c4⟩:=h2.hist;rw[a2]at c1;injection c1 with c1
 injection c1 with e1 e2
 subst e1 e2;refine⟨h1.w1,h2.w2,h1.v1,h2.v2,?_,⟨x0,v,w',a1,c2,a3.trans c3,qup.2 ⟨_,a4,c4⟩⟩,?_⟩
 ·intro r hr;obtain⟨p,hp,q,hq,e,rfl⟩:=zx.1 hr;exact⟨(h1.pm p hp).1,(h2.pm q hq).2⟩
 ·intro r hr;obtain⟨p,hp,q,hq,e,rfl⟩:=zx.1 hr;have g1:=h1.all p hp;have g2:=h2.all q hq;rw[←e]at g2;exact q0b (f:=inB m.2.2.1) (g:=inB n.2.2.1) (fun x y z k1 k2=>qup.2 ⟨y,k1,k2⟩) g1 g2 (qhv.2 ⟨q,hq,e.symm,rfl⟩)
theorem qzm{run:List Int}{V l2:List Pr}{vl:Int}{i:Nat}{a c:a8}{N1 N2 X1 X2:List Int}{NP:List Pr}{p:Pr}{O:List Pr}(hl:l2.length≤60)(hO:O.length≤4000)(hp:p.2.1.length≤50):
  xt run V vl (i:Int) l2 (l2.length:Int) a.1 a.2.1 a.2.2.1 a.2.2.2.1 c.1 c.2.1 c.2.2.1 c.2.2.2.1 N1 N2 NP X1 X2 p.1 p.2.1 (0,O)=some (.inl (O++qbs p l2)):=by
 refine xa (fun j=>((j:Int),O++qbs p (l2.take j))) l2.length (gg (by omega)) _ (fun j hj=> ?_) ?_ _ ?_
 ·have e:=qu2 p (l2.take j);have ht:(l2.take j).length=j:=by rw[List.length_take];omega
  have hol:(O++qbs p (l2.take j)).length≤5000:=by rw[List.length_append];omega
  rw[ia l2 j ab.z hj,q0q];unfold km;rw[qdw (by omega),vz (by omega) (by omega),vz (by omega) (by omega),q0y _ _ (by omega),au];simp only[Int.toNat_natCast];by_cases hc:p.2.1=(l2.getD j ab.z).1
  ·rw[decide_eq_true hc,if_pos hc,cond_true,qx0 (by omega) (by omega),qqb (by omega) (by omega),am,←List.append_assoc]
  ·rw[decide_eq_false hc,if_neg hc,cond_false,qqb (by omega) (by omega),am]
 ·rw[List.take_length];simp(disch:=omega)only[km,rs]
 ·show((0:Int),O)=(((0:Nat):Int),O++qbs p []);rw[show qbs p []=[]from rfl,List.append_nil];rfl
theorem qkk(a b c:a8)(run:List Int)(m n:ck):sd a b c run m n=some true:=by
 unfold sd;rw[qzt];obtain⟨b1,e1,g1⟩:=qra a;obtain⟨b2,e2,g2⟩:=qra b;obtain⟨b3,e3,g3⟩:=qra c;obtain⟨b4,e4,g4⟩:=qwi run;obtain⟨b5,e5,g5⟩:=qwi m.2.1;obtain⟨b6,e6,g6⟩:=qwi n.2.1;obtain⟨b7,e7,g7⟩:=q12 m.2.2.1;obtain⟨b8,e8,g8⟩:=q12 n.2.2.1;simp only[au,Bool.not_true,cond_false];rw[e1,au];cases b1 with
 |true=>rfl
 |false=>
 rw[cond_false,e2,au];cases b2 with
 |true=>rfl
 |false=>
 rw[cond_false,e3,au];cases b3 with
 |true=>rfl
 |false=>
 rw[cond_false,e4,au];cases b4 with
 |true=>rfl
 |false=>
 rw[cond_false,e5,au];cases b5 with
 |true=>rfl
 |false=>
 rw[cond_false,e6,au];cases b6 with
 |true=>rfl
 |false=>
 rw[cond_false,e7,au];cases b7 with
 |true=>rfl
 |false=>
 rw[cond_false,e8,au];cases b8 with
 |true=>rfl
 |false=>
 rw[cond_false];by_cases c1:(50:Int)<(m.1.length:Int)
 ·rw[qdw c1]
 rw[qbb (by omega)];by_cases c2:(50:Int)<(n.1.length:Int)
 ·rw[qdw c2]
 rw[qbb (by omega)];have g1:=(g1 rfl).small;have g2:=(g2 rfl).small;have g3:=(g3 rfl).small;have g4:=g4 rfl;have g5:=g5 rfl;have g6:=g6 rfl;have g7:=g7 rfl;have g8:=g8 rfl;obtain⟨r1,f1,k1⟩:=qqj g1 g2 (run:=run) (x:=m) (by omega) (by omega) (by omega) (fun p hp=>by have:=g7.2 p hp;omega);obtain⟨r2,f2,k2⟩:=qqj g2 g3 (run:=m.2.1) (x:=n) (by omega) (by omega) (by omega) (fun p hp=>by have:=g8.2 p hp;omega);have hlen:=qjl n.2.2.1 m.2.2.1;have hmul:m.2.2.1.length*n.2.2.1.length≤60*60:=Nat.mul_le_mul g7.1 g8.1;obtain⟨r3,f3,k3⟩:=qqj g1 g3 (run:=run) (x:=(n.1,n.2.1,tv m.2.2.1 n.2.2.1,())) (by omega) (by show n.2.1.length≤100000;omega) (by show(tv m.2.2.1 n.2.2.1).length≤20000;omega) (fun p hp=>by
  obtain⟨q,hq,q',hq',_,rfl⟩:=zx.1 hp;have h1:=g7.2 q hq;have h2:=g8.2 q' hq';exact⟨by show q.1.length≤1000000;omega,by show q'.2.1.length≤1000000;omega⟩)
 rw[f1,au];cases r1 with
 |false=>rfl
 |true=>
 rw[Bool.not_true,cond_false,f2,au];cases r2 with
 |false=>rfl
 |true=>
 rw[Bool.not_true,cond_false];have hL:xu run m.2.2.1 (m.2.2.1.length:Int) a.1 a.2.1 a.2.2.1 a.2.2.2.1 c.1 c.2.1 c.2.2.1 c.2.2.2.1 n.1 n.2.1 n.2.2.1 n.1 n.2.1 (0,[])=some (.inl (tv m.2.2.1 n.2.2.1)):=by
  refine xa (fun j=>((j:Int),tv (m.2.2.1.take j) n.2.2.1)) m.2.2.1.length (gg (by omega)) _ (fun j hj=> ?_) ?_ _ rfl
  ·have ht:(m.2.2.1.take j).length=j:=by rw[List.length_take];omega
   have hc:=qjl n.2.2.1 (m.2.2.1.take j);rw[ht]at hc;have hm:j*n.2.2.1.length≤60*60:=Nat.mul_le_mul (by omega) g8.1;have hp:=(g7.2 _ (a7 ab.z hj)).2;unfold ko;rw[qdw (by omega),vz (by omega) (by omega),vz (by omega) (by omega)];simp only[Int.toNat_natCast];rw[qzm g8.1 (by omega) hp,au,qjq,qqb (by omega) (by omega),am,ia m.2.2.1 j ab.z hj];unfold tv;rw[List.flatMap_append];simp only[List.flatMap_cons,List.flatMap_nil,List.append_nil]
  ·rw[List.take_length];simp(disch:=omega)only[ko,rs]
 rw[hL,au,qjq,f3,au];rw[k3.2 (qzl (k1.1 rfl) (k2.1 rfl))]
end Go.Proofs.Ytdhfhpdadbopkaa
