/-
  Migrate: what can be fired; when a pair satisfies the conditions of a simulation.
-/
import Derived.Test.YtdhfhpdadbopkaaZ3M2
set_option linter.all false
namespace Go.Proofs.Ytdhfhpdadbopkaa
open Go.K Go.M
def okB(n:a8)(m:List Int)(t:Nat):Bool:=decide ((cp n m t).1=0)
def qh6(n:a8)(m:List Int)(t:Nat):Stp:=((t:Int),(cp n m t).2,())
def okT(n:a8)(m:List Int)(i:Nat):List Nat:=(List.range i).filter (okB n m)
def cg(n:a8)(m:List Int):List Stp:=(okT n m n.2.1.length).map (qh6 n m)
theorem jbd(n:a8)(m:List Int)(i:Nat):okT n m (i+1)=if okB n m i=true then okT n m i++[i]else okT n m i:=by
 unfold okT;rw[List.range_succ,List.filter_append];split
 ·rename_i h;rw[q5f h]
 ·rename_i h;rw[q5e (by simpa using h),List.append_nil]
theorem q7e(n:a8)(m:List Int)(i:Nat):(okT n m i).length≤i:=by
 have:=List.length_filter_le (okB n m) (List.range i);rwa[List.length_range]at this
theorem q4i{n:a8}(h:Small n)(hv:bv n=true){m:List Int}(hm:c7 n.1 m=true):fg n m=some (cg n m):=by
 have ht:=h.trans;have hL:qho m (n.2.1.length:Int) n.1 n.2.1 n.2.2.1 n.2.2.2.1 (0,[])=some (.inl (cg n m)):=by
  refine wa (fun i=>((i:Int),(okT n m i).map (qh6 n m))) n.2.1.length (h8 (by omega)) _ (fun i hi=> ?_) ?_ _ rfl
  ·have hF:=q0m h hv hm hi;have hlen:=q7e n m i;have hl:((okT n m i).map (qh6 n m)).length=(okT n m i).length:=List.length_map _;have hF:jd (n.1,n.2.1,n.2.2.1,n.2.2.2.1,()) m (i:Int)=some (cp n m i):=hF;unfold rf;rw[oe (by omega),hF,jbd];simp only[al];cases ho:okB n m i with
   |true=>
    have:decide ((cp n m i).1=0)=true:=ho;rw[this,if_pos rfl,List.map_append];simp(disch:=omega)only[am,hl,rs];rfl
   |false=>
    have:decide ((cp n m i).1=0)=false:=ho;rw[this,if_neg (by simp)];simp(disch:=omega)only[am,rs]
  ·simp(disch:=omega)only[rf,rs];rfl
 unfold fg;rw[hL];rfl
theorem q4h{n:a8}{m:List Int}{i:Nat}(hi:i<(cg n m).length):∃t,t<n.2.1.length∧okB n m t=true∧(cg n m).getD i ag.z=qh6 n m t:=by
 have h1:=ba ag.z hi;obtain⟨t,ht,e⟩:=List.mem_map.1 h1;have:=List.mem_filter.1 ht;exact⟨t,List.mem_range.1 this.1,this.2,e.symm⟩
theorem q0d(n:a8)(m:List Int):(cg n m).length≤n.2.1.length:=by
 unfold cg;rw[List.length_map];exact q7e _ _ _
theorem quu{n:a8}(h:Small n)(hv:bv n=true){m:List Int}(hm:c7 n.1 m=true){t:Nat}(ht:t<n.2.1.length)(ho:okB n m t=true):c7 n.1 (cp n m t).2=true:=qvg h hv hm ht (of_decide_eq_true ho)
def q33(n:a8)(p:Int):List Int:=(List.replicate n.1.toNat (0:Int)).set p.toNat 1
abbrev qn7(n:a8):List Int:=q33 n n.2.2.2.1
abbrev q8t(n:a8):List Int:=q33 n n.2.2.1
theorem jbe(n:a8)(p:Int):(q33 n p).length=n.1.toNat:=by unfold q33;rw[List.length_set,List.length_replicate]
theorem qwt{n:a8}(h:Small n)(hv:bv n=true){p:Int}(hp:0≤p∧p<n.1):qfs n p=some (0,q33 n p)∧qb8 n p=some (q33 n p):=by
 obtain⟨p1,p2,_⟩:=cf hv h;have hl:(List.replicate n.1.toNat (0:Int)).length=n.1.toNat:=List.length_replicate;constructor
 ·unfold qfs;rw[qnt h,hv];simp(disch:=omega)only[Bool.not_true,hl,rs];rfl
 ·unfold qb8;simp(disch:=omega)only[hl,rs];rfl
theorem q2t{n:a8}(h:Small n)(hv:bv n=true):qm n=some (0,qn7 n):=by
 obtain⟨p1,p2,p3,p4,p5,_⟩:=cf hv h;unfold qm;rw[(qwt h hv p5).1];rfl
theorem q4r{n:a8}(h:Small n)(hv:bv n=true):tc n=some (q8t n,0):=by
 obtain⟨p1,p2,p3,p4,p5,_⟩:=cf hv h;unfold tc;rw[(qwt h hv p4).1];rfl
theorem qwu{n:a8}(h:Small n)(hv:bv n=true)(p:Int):c7 n.1 (q33 n p)=true:=by
 obtain⟨p1,p2,_⟩:=cf hv h;refine qb6.2 ⟨by rw[jbe];omega,fun i hi=> ?_⟩;unfold q33 at hi⊢;rw[List.length_set,List.length_replicate]at hi;rw[List.getD_eq_getElem?_getD,List.getElem?_set];split
 ·split
  ·simp
  ·simp
 ·rw[List.getElem?_replicate,if_pos hi];simp
def yj(n:a8)(t:Nat):ByteArray:=(n.2.1.getD t ae.z).1
def q4u(new:a8)(f:List Int→List Int→Bool)(lab:ByteArray)(x y:List Int):Bool:=(cg new y).any fun a=>eqS (yj new a.1.toNat) lab&&f x a.2.1
def qx2(old new:a8)(f:List Int→List Int→Bool)(y:List Int)(s:Stp):Bool:=(eqS (yj old s.1.toNat) ⟨#[]⟩&&f s.2.1 y)||q4u new f (yj old s.1.toNat) s.2.1 y
def qey(old new:a8)(f:List Int→List Int→Bool)(x y:List Int):Bool:=
 (!decide (x=qn7 old)||decide (y=qn7 new))&& !decide ((cg old x).length<(enL old x).length)&&(cg old x).all (qx2 old new f y)
section
variable {old new : a8} (ho : Small old) (hn : Small new) (vo : bv old = true) (vn : bv new = true) {S : Mp} {f : List Int → List Int → Bool} (hS : Tab old.1 new.1 S f)
include ho hn vo vn hS
theorem jee{x y:List Int}(hx:c7 old.1 x=true)(hy:c7 new.1 y=true):ji x y S=some (f x y,S):=by
 obtain⟨p1,p2,_⟩:=cf vo ho;obtain⟨q1,q2,_⟩:=cf vn hn;have l1:=jh hx;have l2:=jh hy;unfold ji;rw[q7h x y (by omega) (by omega),al,hS x y hx hy]
theorem q4v{y:List Int}(hy:c7 new.1 y=true)(lab:ByteArray){s:Stp}(hs:c7 old.1 s.2.1=true):
  aw (cg new y) new lab s S=some (q4u new f lab s.2.1 y,S):=by
 have hlen:=q0d new y;have ht:=hn.trans;have h1:∀i,i<(cg new y).length→oj ((cg new y).getD i ag.z) new lab s S=some ((eqS (yj new ((cg new y).getD i ag.z).1.toNat) lab&&f s.2.1 ((cg new y).getD i ag.z).2.1),S):=fun i hi=>by
  obtain⟨t,ht,hok,e⟩:=q4h hi;rw[e];have hm:=quu hn vn hy ht hok;have h2:=jee ho hn vo vn hS hs hm;unfold oj yj qh6;simp(disch:=omega)only[vy,rs];cases eqS (new.2.1.getD t ae.z).1 lab with
  |false=>rfl
  |true=>
   simp only[cond_true,h2,al];rfl
 have hL:dv (cg new y) new lab s ((cg new y).length:Int) (0,S)=some (match og (fun a=>eqS (yj new a.1.toNat) lab&&f s.2.1 a.2.1) (cg new y)with|some i=> .inr ((i:Int),S)|none=> .inl S):=by
  refine qv4 (cg new y) ag.z _ S (by omega) (fun i hi=> ?_) ?_
  ·simp(disch:=omega)only[bg,h1 i hi,rs];rw[am];exact qar
  ·simp(disch:=omega)only[bg,rs]
 unfold aw cd q4u;rw[hL,al,←qcc];cases og (fun a=>eqS (yj new a.1.toNat) lab&&f s.2.1 a.2.1) (cg new y)with
 |none=>rfl
 |some i=>simp only[ja5,al,Option.isSome_some];rw[decide_eq_true (by omega)]
theorem jcu{x y:List Int}(hx:c7 old.1 x=true)(hy:c7 new.1 y=true):
  qcs y (cg new y) (cg old x) ((cg old x).length:Int) old.1 old.2.1 old.2.2.1 old.2.2.2.1 new.1 new.2.1 new.2.2.1 new.2.2.2.1 (0,S)=some (bif (cg old x).all (qx2 old new f y)then .inl S else .inr (false,S)):=by
 have hlen:=q0d old x;have ht:=ho.trans;have hst:∀i:Nat,i<(cg old x).length→f6 y (cg new y) (cg old x) ((cg old x).length:Int) old.1 old.2.1 old.2.2.1 old.2.2.2.1 new.1 new.2.1 new.2.2.1 new.2.2.2.1 (R:=LR (Int×Mp) Mp (Bool×Mp)) (i:Int) S (fun a' =>some (.next a')) (fun e=>some (.done e)) (fun r=>some (.ret r))=some (bif qx2 old new f y ((cg old x).getD i ag.z)then .next (((i+1:Nat):Int),S)else .ret (false,S)):=fun i hi=>by
  obtain⟨t,ht,hok,e⟩:=q4h hi;have hm:=quu ho vo hx ht hok;have h2:=jee ho hn vo vn hS hm hy;have h3:=q4v ho hn vo vn hS hy (yj old t) (s:=qh6 old x t) hm;have h3:aw (cg new y) (new.1,new.2.1,new.2.2.1,new.2.2.2.1,()) (old.2.1.getD t ae.z).1 (qh6 old x t) S=some (q4u new f (yj old t) (cp old x t).2 y,S):=h3;rw[e];unfold f6 qx2;rw[oe (by omega),fa (by omega) (by omega),fa (by omega) (by omega)];simp only[Int.toNat_natCast,e];have e1:(qh6 old x t).1=(t:Int):=rfl;have e2:(qh6 old x t).2.1=(cp old x t).2:=rfl;rw[e1,e2,fa (by omega) (by omega),fa (by omega) (by omega)];simp only[Int.toNat_natCast,vy];have e3:yj old t=(old.2.1.getD t ae.z).1:=rfl;rw[e3]at h3⊢;simp(disch:=omega)only[h2,h3,am,rs];cases eqS (old.2.1.getD t ae.z).1 ⟨#[]⟩<;>cases f (cp old x t).2 y<;>cases q4u new f (old.2.1.getD t ae.z).1 (cp old x t).2 y<;>rfl
 have hall:=v8 (step:=fun a:Int×Mp=>f6 y (cg new y) (cg old x) ((cg old x).length:Int) old.1 old.2.1 old.2.2.1 old.2.2.2.1 new.1 new.2.1 new.2.2.1 new.2.2.2.1 a.1 a.2 (fun a' =>some (.next a')) (fun e=>some (.done e)) (fun r=>some (.ret r)))
  (fun i:Nat=>((i:Int),S)) (cg old x).length (h8 (by omega)) (fun i=>qx2 old new f y ((cg old x).getD i ag.z)) S (false,S) (fun i hi hp=>(hst i hi).trans (by rw[hp];rfl)) (fun i hi hp=>(hst i hi).trans (by rw[hp];rfl)) (by simp(disch:=omega)only[f6,rs])
 rw[q9y]at hall;exact hall
theorem jas{x y:List Int}(hx:c7 old.1 x=true)(hy:c7 new.1 y=true):rc old new x y S=some (qey old new f x y,S):=by
 obtain⟨p1,p2,_⟩:=cf vo ho;obtain⟨q1,q2,_⟩:=cf vn hn;have l1:=jh hx;have l2:=jh hy;have hT:ol x y S old.1 old.2.1 old.2.2.1 old.2.2.2.1 new.1 new.2.1 new.2.2.1 new.2.2.2.1=some (.inr ((!decide ((cg old x).length<(enL old x).length)&&(cg old x).all (qx2 old new f y)),S)):=by
  have e1:fg (new.1,new.2.1,new.2.2.1,new.2.2.2.1,()) y=some (cg new y):=q4i hn vn hy;have e2:fg (old.1,old.2.1,old.2.2.1,old.2.2.2.1,()) x=some (cg old x):=q4i ho vo hx;have e3:m2 (old.1,old.2.1,old.2.2.1,old.2.2.2.1,()) x=some (0,enL old x):=by
   have:=quz ho x (by omega);rw[vo,hx]at this;exact this
  have e4:decide (((cg old x).length:Int)<((enL old x).length:Int))=decide ((cg old x).length<(enL old x).length):=by rw[Bool.eq_iff_iff];simp
  unfold ol ss;rw[e1,e2,e3];simp only[al,e4];cases decide ((cg old x).length<(enL old x).length)with
  |true=>rfl
  |false=>
   simp only[cond_false];rw[jcu ho hn vo vn hS hx hy];cases(cg old x).all (qx2 old new f y)<;>rfl
 unfold rc qey;rw[q2t ho vo,q2t hn vn];simp only[al];rw[qx x _ (by omega),qx y _ (by omega),hT];simp only[al];cases decide (x=qn7 old)<;>cases decide (y=qn7 new)<;>rfl
end
end Go.Proofs.Ytdhfhpdadbopkaa
