/-
  Migrate: what can be fired; when a pair satisfies the conditions of a simulation.
-/
import Derived.Test.YtdhfhpdadbopkaaZ5M2
set_option linter.all false
namespace Go.Proofs.Ytdhfhpdadbopkaa
open Go.K Go.M
def okB(n:a8)(m:List Int)(t:Nat):Bool:=decide ((jq n m t).1=0)
def qcf(n:a8)(m:List Int)(t:Nat):Stp:=((t:Int),(jq n m t).2,())
def okT(n:a8)(m:List Int)(i:Nat):List Nat:=(List.range i).filter (okB n m)
def b9(n:a8)(m:List Int):List Stp:=(okT n m n.2.1.length).map (qcf n m)
theorem q94(n:a8)(m:List Int)(i:Nat):okT n m (i+1)=if okB n m i=true then okT n m i++[i]else okT n m i:=by
 unfold okT;rw[List.range_succ,List.filter_append];split
 ·rename_i h;rw[q9d h]
 ·rename_i h;rw[q9c (by simpa using h),List.append_nil]
theorem q6h(n:a8)(m:List Int)(i:Nat):(okT n m i).length≤i:=by
 have:=List.length_filter_le (okB n m) (List.range i);rwa[List.length_range]at this
theorem q3q{n:a8}(h:Small n)(hv:dv n=true){m:List Int}(hm:da n.1 m=true):eh n m=some (b9 n m):=by
 have ht:=h.trans;have hL:qfw m (n.2.1.length:Int) n.1 n.2.1 n.2.2.1 n.2.2.2.1 (0,[])=some (.inl (b9 n m)):=by
  refine xe (fun i=>((i:Int),(okT n m i).map (qcf n m))) n.2.1.length (ge (by omega)) _ (fun i hi=> ?_) ?_ _ rfl
  ·have hF:=ja2 h hv hm hi;have hlen:=q6h n m i;have hl:((okT n m i).map (qcf n m)).length=(okT n m i).length:=List.length_map _;have hF:qa7 (n.1,n.2.1,n.2.2.1,n.2.2.2.1,()) m (i:Int)=some (jq n m i):=hF;unfold po;rw[q36 (by omega),hF,q94];simp only[ba];cases ho:okB n m i with
   |true=>
    have:decide ((jq n m i).1=0)=true:=ho;rw[this,if_pos rfl,List.map_append];simp(disch:=omega)only[ao,hl,rs];rfl
   |false=>
    have:decide ((jq n m i).1=0)=false:=ho;rw[this,if_neg (by simp)];simp(disch:=omega)only[ao,rs]
  ·simp(disch:=omega)only[po,rs];rfl
 unfold eh;rw[hL];rfl
theorem q3p{n:a8}{m:List Int}{i:Nat}(hi:i<(b9 n m).length):∃t,t<n.2.1.length∧okB n m t=true∧(b9 n m).getD i ag.z=qcf n m t:=by
 have h1:=az ag.z hi;obtain⟨t,ht,e⟩:=List.mem_map.1 h1;have:=List.mem_filter.1 ht;exact⟨t,List.mem_range.1 this.1,this.2,e.symm⟩
theorem qzk(n:a8)(m:List Int):(b9 n m).length≤n.2.1.length:=by
 unfold b9;rw[List.length_map];exact q6h _ _ _
theorem q6i{n:a8}(h:Small n)(hv:dv n=true){m:List Int}(hm:da n.1 m=true){t:Nat}(ht:t<n.2.1.length)(ho:okB n m t=true):da n.1 (jq n m t).2=true:=q4k h hv hm ht (of_decide_eq_true ho)
def jh3(n:a8)(p:Int):List Int:=(List.replicate n.1.toNat (0:Int)).set p.toNat 1
abbrev qt3(n:a8):List Int:=jh3 n n.2.2.2.1
theorem q41{n:a8}(h:Small n)(hv:dv n=true){p:Int}(hp:0≤p∧p<n.1):qdt n p=some (0,jh3 n p)∧qi3 n p=some (jh3 n p):=by
 obtain⟨p1,p2,_⟩:=ff hv h;have hl:(List.replicate n.1.toNat (0:Int)).length=n.1.toNat:=List.length_replicate;constructor
 ·unfold qdt;rw[qtm h,hv];simp(disch:=omega)only[Bool.not_true,hl,rs];rfl
 ·unfold qi3;simp(disch:=omega)only[hl,rs];rfl
theorem q12{n:a8}(h:Small n)(hv:dv n=true):o3 n=some (0,qt3 n):=by
 obtain⟨p1,p2,p3,p4,p5,_⟩:=ff hv h;unfold o3;rw[(q41 h hv p5).1];rfl
def qgr(n:a8)(t:Nat):ByteArray:=(n.2.1.getD t ae.z).1
def qzu(new:a8)(f:List Int→List Int→Bool)(lab:ByteArray)(x y:List Int):Bool:=(b9 new y).any fun a=>eqS (qgr new a.1.toNat) lab&&f x a.2.1
def qtp(old new:a8)(f:List Int→List Int→Bool)(y:List Int)(s:Stp):Bool:=(eqS (qgr old s.1.toNat) ⟨#[]⟩&&f s.2.1 y)||qzu new f (qgr old s.1.toNat) s.2.1 y
def qq4(old new:a8)(f:List Int→List Int→Bool)(x y:List Int):Bool:=
 (!decide (x=qt3 old)||decide (y=qt3 new))&& !decide ((b9 old x).length<(enL old x).length)&&(b9 old x).all (qtp old new f y)
section
variable {old new : a8} (ho : Small old) (hn : Small new) (vo : dv old = true) (vn : dv new = true) {S : Mp} {f : List Int → List Int → Bool} (hS : Tab old.1 new.1 S f)
include ho hn vo vn hS
theorem jc0{x y:List Int}(hx:da old.1 x=true)(hy:da new.1 y=true):ir x y S=some (f x y,S):=by
 obtain⟨p1,p2,_⟩:=ff vo ho;obtain⟨q1,q2,_⟩:=ff vn hn;have l1:=ns hx;have l2:=ns hy;unfold ir;rw[q6l x y (by omega) (by omega),ba,hS x y hx hy]
theorem q30{y:List Int}(hy:da new.1 y=true)(lab:ByteArray){s:Stp}(hs:da old.1 s.2.1=true):
  aw (b9 new y) new lab s S=some (qzu new f lab s.2.1 y,S):=by
 have hlen:=qzk new y;have ht:=hn.trans;have h1:∀i,i<(b9 new y).length→m9 ((b9 new y).getD i ag.z) new lab s S=some ((eqS (qgr new ((b9 new y).getD i ag.z).1.toNat) lab&&f s.2.1 ((b9 new y).getD i ag.z).2.1),S):=fun i hi=>by
  obtain⟨t,ht,hok,e⟩:=q3p hi;rw[e];have hm:=q6i hn vn hy ht hok;have h2:=jc0 ho hn vo vn hS hs hm;unfold m9 qgr qcf;simp(disch:=omega)only[qi0,rs];cases eqS (new.2.1.getD t ae.z).1 lab with
  |false=>rfl
  |true=>
   simp only[cond_true,h2,ba];rfl
 have hL:df (b9 new y) new lab s ((b9 new y).length:Int) (0,S)=some (match ot (fun a=>eqS (qgr new a.1.toNat) lab&&f s.2.1 a.2.1) (b9 new y)with|some i=> .inr ((i:Int),S)|none=> .inl S):=by
  refine qup (b9 new y) ag.z _ S (by omega) (fun i hi=> ?_) ?_
  ·simp(disch:=omega)only[bg,h1 i hi,rs];rw[ao];exact qir
  ·simp(disch:=omega)only[bg,rs]
 unfold aw b7 qzu;rw[hL,ba,←qcw];cases ot (fun a=>eqS (qgr new a.1.toNat) lab&&f s.2.1 a.2.1) (b9 new y)with
 |none=>rfl
 |some i=>simp only[q9w,ba,Option.isSome_some];rw[decide_eq_true (by omega)]
theorem jbe{x y:List Int}(hx:da old.1 x=true)(hy:da new.1 y=true):
  qax y (b9 new y) (b9 old x) ((b9 old x).length:Int) old.1 old.2.1 old.2.2.1 old.2.2.2.1 new.1 new.2.1 new.2.2.1 new.2.2.2.1 (0,S)=some (bif (b9 old x).all (qtp old new f y)then .inl S else .inr (false,S)):=by
 have hlen:=qzk old x;have ht:=ho.trans;have hst:∀i:Nat,i<(b9 old x).length→fg y (b9 new y) (b9 old x) ((b9 old x).length:Int) old.1 old.2.1 old.2.2.1 old.2.2.2.1 new.1 new.2.1 new.2.2.1 new.2.2.2.1 (R:=LR (Int×Mp) Mp (Bool×Mp)) (i:Int) S (fun a' =>some (.next a')) (fun e=>some (.done e)) (fun r=>some (.ret r))=some (bif qtp old new f y ((b9 old x).getD i ag.z)then .next (((i+1:Nat):Int),S)else .ret (false,S)):=fun i hi=>by
  obtain⟨t,ht,hok,e⟩:=q3p hi;have hm:=q6i ho vo hx ht hok;have h2:=jc0 ho hn vo vn hS hm hy;have h3:=q30 ho hn vo vn hS hy (qgr old t) (s:=qcf old x t) hm;have h3:aw (b9 new y) (new.1,new.2.1,new.2.2.1,new.2.2.2.1,()) (old.2.1.getD t ae.z).1 (qcf old x t) S=some (qzu new f (qgr old t) (jq old x t).2 y,S):=h3;rw[e];unfold fg qtp;rw[q36 (by omega),qtv (by omega) (by omega),qtv (by omega) (by omega)];simp only[Int.toNat_natCast,e];have e1:(qcf old x t).1=(t:Int):=rfl;have e2:(qcf old x t).2.1=(jq old x t).2:=rfl;rw[e1,e2,qtv (by omega) (by omega),qtv (by omega) (by omega)];simp only[Int.toNat_natCast,qi0];have e3:qgr old t=(old.2.1.getD t ae.z).1:=rfl;rw[e3]at h3⊢;simp(disch:=omega)only[h2,h3,ao,rs];cases eqS (old.2.1.getD t ae.z).1 ⟨#[]⟩<;>cases f (jq old x t).2 y<;>cases qzu new f (old.2.1.getD t ae.z).1 (jq old x t).2 y<;>rfl
 have hall:=ov (step:=fun a:Int×Mp=>fg y (b9 new y) (b9 old x) ((b9 old x).length:Int) old.1 old.2.1 old.2.2.1 old.2.2.2.1 new.1 new.2.1 new.2.2.1 new.2.2.2.1 a.1 a.2 (fun a' =>some (.next a')) (fun e=>some (.done e)) (fun r=>some (.ret r)))
  (fun i:Nat=>((i:Int),S)) (b9 old x).length (ge (by omega)) (fun i=>qtp old new f y ((b9 old x).getD i ag.z)) S (false,S) (fun i hi hp=>(hst i hi).trans (by rw[hp];rfl)) (fun i hi hp=>(hst i hi).trans (by rw[hp];rfl)) (by simp(disch:=omega)only[fg,rs])
 rw[q8r]at hall;exact hall
theorem q9k{x y:List Int}(hx:da old.1 x=true)(hy:da new.1 y=true):pn old new x y S=some (qq4 old new f x y,S):=by
 obtain⟨p1,p2,_⟩:=ff vo ho;obtain⟨q1,q2,_⟩:=ff vn hn;have l1:=ns hx;have l2:=ns hy;have hT:na x y S old.1 old.2.1 old.2.2.1 old.2.2.2.1 new.1 new.2.1 new.2.2.1 new.2.2.2.1=some (.inr ((!decide ((b9 old x).length<(enL old x).length)&&(b9 old x).all (qtp old new f y)),S)):=by
  have e1:eh (new.1,new.2.1,new.2.2.1,new.2.2.2.1,()) y=some (b9 new y):=q3q hn vn hy;have e2:eh (old.1,old.2.1,old.2.2.1,old.2.2.2.1,()) x=some (b9 old x):=q3q ho vo hx;have e3:l4 (old.1,old.2.1,old.2.2.1,old.2.2.2.1,()) x=some (0,enL old x):=by
   have:=qti ho x (by omega);rw[vo,hx]at this;exact this
  have e4:decide (((b9 old x).length:Int)<((enL old x).length:Int))=decide ((b9 old x).length<(enL old x).length):=by rw[Bool.eq_iff_iff];simp
  unfold na qp;rw[e1,e2,e3];simp only[ba,e4];cases decide ((b9 old x).length<(enL old x).length)with
  |true=>rfl
  |false=>
   simp only[cond_false];rw[jbe ho hn vo vn hS hx hy];cases(b9 old x).all (qtp old new f y)<;>rfl
 unfold pn qq4;rw[q12 ho vo,q12 hn vn];simp only[ba];rw[qyj x _ (by omega),qyj y _ (by omega),hT];simp only[ba];cases decide (x=qt3 old)<;>cases decide (y=qt3 new)<;>rfl
end
theorem jih(l:List Pr)(hl:l.length≤1000000)(hp:∀p∈l,p.1.length≤1000∧p.2.1.length≤1000)(x y:List Int):qim l x y=some (inB l x y):=by
 have hL:qwa l x y 0=some (bif l.any (fun p=>decide (p.1=x)&&decide (p.2.1=y))then .inr true else .inl ()):=by
  refine l3 l ab.z (fun p=>decide (p.1=x)&&decide (p.2.1=y)) true (by omega) (fun i hi=> ?_) ?_
  ·obtain⟨h1,h2⟩:=hp _ (az ab.z hi);simp(disch:=omega)only[qca,qfc (l.getD i ab.z).1 x (by omega),qfc (l.getD i ab.z).2.1 y (by omega),rs];rw[ao];cases decide ((l.getD i ab.z).1=x)<;>cases decide ((l.getD i ab.z).2.1=y)<;>rfl
  ·simp(disch:=omega)only[qca,rs]
 unfold qim inB;rw[hL];cases l.any fun p=>decide (p.1=x)&&decide (p.2.1=y)<;>rfl
end Go.Proofs.Ytdhfhpdadbopkaa
