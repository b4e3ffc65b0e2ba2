/-
  Migrate: what can be fired; when a pair satisfies the conditions of a simulation.
-/
import Derived.Test.YtdhfhpdadbopkaaZ4M2
set_option linter.all false
namespace Go.Proofs.Ytdhfhpdadbopkaa
open Go.K Go.M
def okB(n:a8)(m:List Int)(t:Nat):Bool:=decide ((mo n m t).1=0)
def qfk(n:a8)(m:List Int)(t:Nat):Stp:=((t:Int),(mo n m t).2,())
def okT(n:a8)(m:List Int)(i:Nat):List Nat:=(List.range i).filter (okB n m)
def ce(n:a8)(m:List Int):List Stp:=(okT n m n.2.1.length).map (qfk n m)
theorem q5u(n:a8)(m:List Int)(i:Nat):okT n m (i+1)=if okB n m i=true then okT n m i++[i]else okT n m i:=by
 unfold okT;rw[List.range_succ,List.filter_append];split
 ·rename_i h;rw[qv1 h]
 ·rename_i h;rw[qv0 (by simpa using h),List.append_nil]
theorem q17(n:a8)(m:List Int)(i:Nat):(okT n m i).length≤i:=by
 have:=List.length_filter_le (okB n m) (List.range i);rwa[List.length_range]at this
theorem qzc{n:a8}(h:Small n)(hv:cj n=true){m:List Int}(hm:dx n.1 m=true):er n m=some (ce n m):=by
 have ht:=h.trans;have hL:qe2 m (n.2.1.length:Int) n.1 n.2.1 n.2.2.1 n.2.2.2.1 (0,[])=some (.inl (ce n m)):=by
  refine xa (fun i=>((i:Int),(okT n m i).map (qfk n m))) n.2.1.length (gg (by omega)) _ (fun i hi=> ?_) ?_ _ rfl
  ·have hF:=q1d h hv hm hi;have hlen:=q17 n m i;have hl:((okT n m i).map (qfk n m)).length=(okT n m i).length:=List.length_map _;have hF:wh (n.1,n.2.1,n.2.2.1,n.2.2.2.1,()) m (i:Int)=some (mo n m i):=hF;unfold pi;rw[qdw (by omega),hF,q5u];simp only[au];cases ho:okB n m i with
   |true=>
    have:decide ((mo n m i).1=0)=true:=ho;rw[this,if_pos rfl,List.map_append];simp(disch:=omega)only[am,hl,rs];rfl
   |false=>
    have:decide ((mo n m i).1=0)=false:=ho;rw[this,if_neg (by simp)];simp(disch:=omega)only[am,rs]
  ·simp(disch:=omega)only[pi,rs];rfl
 unfold er;rw[hL];rfl
theorem qzb{n:a8}{m:List Int}{i:Nat}(hi:i<(ce n m).length):∃t,t<n.2.1.length∧okB n m t=true∧(ce n m).getD i ag.z=qfk n m t:=by
 have h1:=a7 ag.z hi;obtain⟨t,ht,e⟩:=List.mem_map.1 h1;have:=List.mem_filter.1 ht;exact⟨t,List.mem_range.1 this.1,this.2,e.symm⟩
theorem qvc(n:a8)(m:List Int):(ce n m).length≤n.2.1.length:=by
 unfold ce;rw[List.length_map];exact q17 _ _ _
theorem q18{n:a8}(h:Small n)(hv:cj n=true){m:List Int}(hm:dx n.1 m=true){t:Nat}(ht:t<n.2.1.length)(ho:okB n m t=true):dx n.1 (mo n m t).2=true:=qq4 h hv hm ht (of_decide_eq_true ho)
def qyx(n:a8)(p:Int):List Int:=(List.replicate n.1.toNat (0:Int)).set p.toNat 1
abbrev qpe(n:a8):List Int:=qyx n n.2.2.2.1
abbrev q3i(n:a8):List Int:=qyx n n.2.2.1
theorem q5v(n:a8)(p:Int):(qyx n p).length=n.1.toNat:=by unfold qyx;rw[List.length_set,List.length_replicate]
theorem q5w{n:a8}(h:Small n)(hv:cj n=true){p:Int}(hp:0≤p∧p<n.1):qda n p=some (0,qyx n p)∧qu5 n p=some (qyx n p):=by
 obtain⟨p1,p2,_⟩:=em hv h;have hl:(List.replicate n.1.toNat (0:Int)).length=n.1.toNat:=List.length_replicate;constructor
 ·unfold qda;rw[qkl h,hv];simp(disch:=omega)only[Bool.not_true,hl,rs];rfl
 ·unfold qu5;simp(disch:=omega)only[hl,rs];rfl
theorem qxn{n:a8}(h:Small n)(hv:cj n=true):o4 n=some (0,qpe n):=by
 obtain⟨p1,p2,p3,p4,p5,_⟩:=em hv h;unfold o4;rw[(q5w h hv p5).1];rfl
theorem qzn{n:a8}(h:Small n)(hv:cj n=true):q0 n=some (q3i n,0):=by
 obtain⟨p1,p2,p3,p4,p5,_⟩:=em hv h;unfold q0;rw[(q5w h hv p4).1];rfl
theorem qyy{n:a8}(h:Small n)(hv:cj n=true)(p:Int):dx n.1 (qyx n p)=true:=by
 obtain⟨p1,p2,_⟩:=em hv h;refine zq.2 ⟨by rw[q5v];omega,fun i hi=> ?_⟩;unfold qyx at hi⊢;rw[List.length_set,List.length_replicate]at hi;rw[List.getD_eq_getElem?_getD,List.getElem?_set];split
 ·split
  ·simp
  ·simp
 ·rw[List.getElem?_replicate,if_pos hi];simp
def qb4(n:a8)(t:Nat):ByteArray:=(n.2.1.getD t ae.z).1
def qzq(new:a8)(f:List Int→List Int→Bool)(lab:ByteArray)(x y:List Int):Bool:=(ce new y).any fun a=>eqS (qb4 new a.1.toNat) lab&&f x a.2.1
def qqr(old new:a8)(f:List Int→List Int→Bool)(y:List Int)(s:Stp):Bool:=(eqS (qb4 old s.1.toNat) ⟨#[]⟩&&f s.2.1 y)||qzq new f (qb4 old s.1.toNat) s.2.1 y
def qbd(old new:a8)(f:List Int→List Int→Bool)(x y:List Int):Bool:=
 (!decide (x=qpe old)||decide (y=qpe new))&& !decide ((ce old x).length<(enL old x).length)&&(ce old x).all (qqr old new f y)
section
variable {old new : a8} (ho : Small old) (hn : Small new) (vo : cj old = true) (vn : cj new = true) {S : Mp} {f : List Int → List Int → Bool} (hS : Tab old.1 new.1 S f)
include ho hn vo vn hS
theorem q8t{x y:List Int}(hx:dx old.1 x=true)(hy:dx new.1 y=true):iw x y S=some (f x y,S):=by
 obtain⟨p1,p2,_⟩:=em vo ho;obtain⟨q1,q2,_⟩:=em vn hn;have l1:=ox hx;have l2:=ox hy;unfold iw;rw[q2b x y (by omega) (by omega),au,hS x y hx hy]
theorem qzr{y:List Int}(hy:dx new.1 y=true)(lab:ByteArray){s:Stp}(hs:dx old.1 s.2.1=true):
  aq (ce new y) new lab s S=some (qzq new f lab s.2.1 y,S):=by
 have hlen:=qvc new y;have ht:=hn.trans;have h1:∀i,i<(ce new y).length→ng ((ce new y).getD i ag.z) new lab s S=some ((eqS (qb4 new ((ce new y).getD i ag.z).1.toNat) lab&&f s.2.1 ((ce new y).getD i ag.z).2.1),S):=fun i hi=>by
  obtain⟨t,ht,hok,e⟩:=qzb hi;rw[e];have hm:=q18 hn vn hy ht hok;have h2:=q8t ho hn vo vn hS hs hm;unfold ng qb4 qfk;simp(disch:=omega)only[qhu,rs];cases eqS (new.2.1.getD t ae.z).1 lab with
  |false=>rfl
  |true=>
   simp only[cond_true,h2,au];rfl
 have hL:dm (ce new y) new lab s ((ce new y).length:Int) (0,S)=some (match ov (fun a=>eqS (qb4 new a.1.toNat) lab&&f s.2.1 a.2.1) (ce new y)with|some i=> .inr ((i:Int),S)|none=> .inl S):=by
  refine qru (ce new y) ag.z _ S (by omega) (fun i hi=> ?_) ?_
  ·simp(disch:=omega)only[bg,h1 i hi,rs];rw[am];exact qhk
  ·simp(disch:=omega)only[bg,rs]
 unfold aq b9 qzq;rw[hL,au,←zz];cases ov (fun a=>eqS (qb4 new a.1.toNat) lab&&f s.2.1 a.2.1) (ce new y)with
 |none=>rfl
 |some i=>simp only[q5m,au,Option.isSome_some];rw[decide_eq_true (by omega)]
theorem q67{x y:List Int}(hx:dx old.1 x=true)(hy:dx new.1 y=true):
  qak y (ce new y) (ce old x) ((ce old x).length:Int) old.1 old.2.1 old.2.2.1 old.2.2.2.1 new.1 new.2.1 new.2.2.1 new.2.2.2.1 (0,S)=some (bif (ce old x).all (qqr old new f y)then .inl S else .inr (false,S)):=by
 have hlen:=qvc old x;have ht:=ho.trans;have hst:∀i:Nat,i<(ce old x).length→fm y (ce new y) (ce old x) ((ce old x).length:Int) old.1 old.2.1 old.2.2.1 old.2.2.2.1 new.1 new.2.1 new.2.2.1 new.2.2.2.1 (R:=LR (Int×Mp) Mp (Bool×Mp)) (i:Int) S (fun a' =>some (.next a')) (fun e=>some (.done e)) (fun r=>some (.ret r))=some (bif qqr old new f y ((ce old x).getD i ag.z)then .next (((i+1:Nat):Int),S)else .ret (false,S)):=fun i hi=>by
  obtain⟨t,ht,hok,e⟩:=qzb hi;have hm:=q18 ho vo hx ht hok;have h2:=q8t ho hn vo vn hS hm hy;have h3:=qzr ho hn vo vn hS hy (qb4 old t) (s:=qfk old x t) hm;have h3:aq (ce new y) (new.1,new.2.1,new.2.2.1,new.2.2.2.1,()) (old.2.1.getD t ae.z).1 (qfk old x t) S=some (qzq new f (qb4 old t) (mo old x t).2 y,S):=h3;rw[e];unfold fm qqr;rw[qdw (by omega),vz (by omega) (by omega),vz (by omega) (by omega)];simp only[Int.toNat_natCast,e];have e1:(qfk old x t).1=(t:Int):=rfl;have e2:(qfk old x t).2.1=(mo old x t).2:=rfl;rw[e1,e2,vz (by omega) (by omega),vz (by omega) (by omega)];simp only[Int.toNat_natCast,qhu];have e3:qb4 old t=(old.2.1.getD t ae.z).1:=rfl;rw[e3]at h3⊢;simp(disch:=omega)only[h2,h3,am,rs];cases eqS (old.2.1.getD t ae.z).1 ⟨#[]⟩<;>cases f (mo old x t).2 y<;>cases qzq new f (old.2.1.getD t ae.z).1 (mo old x t).2 y<;>rfl
 have hall:=qv (step:=fun a:Int×Mp=>fm y (ce new y) (ce old x) ((ce old x).length:Int) old.1 old.2.1 old.2.2.1 old.2.2.2.1 new.1 new.2.1 new.2.2.1 new.2.2.2.1 a.1 a.2 (fun a' =>some (.next a')) (fun e=>some (.done e)) (fun r=>some (.ret r)))
  (fun i:Nat=>((i:Int),S)) (ce old x).length (gg (by omega)) (fun i=>qqr old new f y ((ce old x).getD i ag.z)) S (false,S) (fun i hi hp=>(hst i hi).trans (by rw[hp];rfl)) (fun i hi hp=>(hst i hi).trans (by rw[hp];rfl)) (by simp(disch:=omega)only[fm,rs])
 rw[q4j]at hall;exact hall
theorem q49{x y:List Int}(hx:dx old.1 x=true)(hy:dx new.1 y=true):ph old new x y S=some (qbd old new f x y,S):=by
 obtain⟨p1,p2,_⟩:=em vo ho;obtain⟨q1,q2,_⟩:=em vn hn;have l1:=ox hx;have l2:=ox hy;have hT:nh x y S old.1 old.2.1 old.2.2.1 old.2.2.2.1 new.1 new.2.1 new.2.2.1 new.2.2.2.1=some (.inr ((!decide ((ce old x).length<(enL old x).length)&&(ce old x).all (qqr old new f y)),S)):=by
  have e1:er (new.1,new.2.1,new.2.2.1,new.2.2.2.1,()) y=some (ce new y):=qzc hn vn hy;have e2:er (old.1,old.2.1,old.2.2.1,old.2.2.2.1,()) x=some (ce old x):=qzc ho vo hx;have e3:mc (old.1,old.2.1,old.2.2.1,old.2.2.2.1,()) x=some (0,enL old x):=by
   have:=qql ho x (by omega);rw[vo,hx]at this;exact this
  have e4:decide (((ce old x).length:Int)<((enL old x).length:Int))=decide ((ce old x).length<(enL old x).length):=by rw[Bool.eq_iff_iff];simp
  unfold nh qn;rw[e1,e2,e3];simp only[au,e4];cases decide ((ce old x).length<(enL old x).length)with
  |true=>rfl
  |false=>
   simp only[cond_false];rw[q67 ho hn vo vn hS hx hy];cases(ce old x).all (qqr old new f y)<;>rfl
 unfold ph qbd;rw[qxn ho vo,qxn hn vn];simp only[au];rw[qcf x _ (by omega),qcf y _ (by omega),hT];simp only[au];cases decide (x=qpe old)<;>cases decide (y=qpe new)<;>rfl
end
end Go.Proofs.Ytdhfhpdadbopkaa
