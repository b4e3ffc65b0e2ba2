/-
  Migrate: what can be fired; when a pair satisfies the conditions of a simulation.
-/
import Derived.Test.YtdhfhpdadbopkaaGreatZ3M2
set_option linter.all false
namespace Go.Proofs.YtdhfhpdadbopkaaGreat
open Go.K Go.M
def tj(n:a7)(m:List Int)(t:Nat):Bool:=decide ((bm n m t).1=0)
def uh(n:a7)(m:List Int)(t:Nat):Stp:=((t:Int),(bm n m t).2,())
def okT(n:a7)(m:List Int)(i:Nat):List Nat:=(List.range i).filter (tj n m)
def aw(n:a7)(m:List Int):List Stp:=(okT n m n.2.1.length).map (uh n m)
theorem jii(n:a7)(m:List Int)(i:Nat):okT n m (i+1)=if tj n m i=true then okT n m i++[i]else okT n m i:=by
 unfold okT;rw[List.range_succ,List.filter_append];split
 ·rename_i h;rw[qt9 h]
 ·rename_i h;rw[qpp (by simpa using h),List.append_nil]
theorem jef(n:a7)(m:List Int)(i:Nat):(okT n m i).length≤i:=by
 have:=List.length_filter_le (tj n m) (List.range i);rwa[List.length_range]at this
theorem qhw{n:a7}(h:Small n)(hv:bu n=true){m:List Int}(hm:bq n.1 m=true):da n m=some (aw n m):=by
 have ht:=h.trans;have hL:qjj m (n.2.1.length:Int) n.1 n.2.1 n.2.2.1 n.2.2.2.1 (0,[])=some (.inl (aw n m)):=by
  refine f9 (fun i=>((i:Int),(okT n m i).map (uh n m))) n.2.1.length (cr (by omega)) _ (fun i hi=> ?_) ?_ _ rfl
  ·have hF:=jdm h hv hm hi;have hlen:=jef n m i;have hl:((okT n m i).map (uh n m)).length=(okT n m i).length:=List.length_map _;have hF:qav (n.1,n.2.1,n.2.2.1,n.2.2.2.1,()) m (i:Int)=some (bm n m i):=hF;unfold td;rw[cg (by omega),hF,jii];simp only[ah];cases ho:tj n m i with
   |true=>
    have:decide ((bm n m i).1=0)=true:=ho;rw[this,if_pos rfl,List.map_append];simp(disch:=omega)only[ai,hl,rs];rfl
   |false=>
    have:decide ((bm n m i).1=0)=false:=ho;rw[this,if_neg (by simp)];simp(disch:=omega)only[ai,rs]
  ·simp(disch:=omega)only[td,rs];rfl
 unfold da;rw[hL];rfl
theorem qhv{n:a7}{m:List Int}{i:Nat}(hi:i<(aw n m).length):∃t,t<n.2.1.length∧tj n m t=true∧(aw n m).getD i ag.z=uh n m t:=by
 have h1:=au ag.z hi;obtain⟨t,ht,e⟩:=List.mem_map.1 h1;have:=List.mem_filter.1 ht;exact⟨t,List.mem_range.1 this.1,this.2,e.symm⟩
theorem qdt(n:a7)(m:List Int):(aw n m).length≤n.2.1.length:=by
 unfold aw;rw[List.length_map];exact jef _ _ _
theorem tl{n:a7}(h:Small n)(hv:bu n=true){m:List Int}(hm:bq n.1 m=true){t:Nat}(ht:t<n.2.1.length)(ho:tj n m t=true):bq n.1 (bm n m t).2=true:=q0c h hv hm ht (of_decide_eq_true ho)
def jav(n:a7)(p:Int):List Int:=(List.replicate n.1.toNat (0:Int)).set p.toNat 1
abbrev qkj(n:a7):List Int:=jav n n.2.2.2.1
abbrev qd1(n:a7):List Int:=jav n n.2.2.1
theorem jik(n:a7)(p:Int):(jav n p).length=n.1.toNat:=by unfold jav;rw[List.length_set,List.length_replicate]
theorem qu8{n:a7}(h:Small n)(hv:bu n=true){p:Int}(hp:0≤p∧p<n.1):qg6 n p=some (0,jav n p)∧qds n p=some (jav n p):=by
 obtain⟨p1,p2,_⟩:=ba hv h;have hl:(List.replicate n.1.toNat (0:Int)).length=n.1.toNat:=List.length_replicate;constructor
 ·unfold qg6;rw[qqx h,hv];simp(disch:=omega)only[Bool.not_true,hl,rs];rfl
 ·unfold qds;simp(disch:=omega)only[hl,rs];rfl
theorem qqv{n:a7}(h:Small n)(hv:bu n=true):rz n=some (0,qkj n):=by
 obtain⟨p1,p2,p3,p4,p5,_⟩:=ba hv h;unfold rz;rw[(qu8 h hv p5).1];rfl
theorem qzw{n:a7}(h:Small n)(hv:bu n=true):u9 n=some (qd1 n,0):=by
 obtain⟨p1,p2,p3,p4,p5,_⟩:=ba hv h;unfold u9;rw[(qu8 h hv p4).1];rfl
theorem qep{n:a7}(h:Small n)(hv:bu n=true)(p:Int):bq n.1 (jav n p)=true:=by
 obtain⟨p1,p2,_⟩:=ba hv h;refine qdp.2 ⟨by rw[jik];omega,fun i hi=> ?_⟩;unfold jav at hi⊢;rw[List.length_set,List.length_replicate]at hi;rw[List.getD_eq_getElem?_getD,List.getElem?_set];split
 ·split
  ·simp
  ·simp
 ·rw[List.getElem?_replicate,if_pos hi];simp
def mu(n:a7)(t:Nat):ByteArray:=(n.2.1.getD t af.z).1
def qt2(new:a7)(f:List Int→List Int→Bool)(lab:ByteArray)(x y:List Int):Bool:=(aw new y).any fun a=>eqS (mu new a.1.toNat) lab&&f x a.2.1
def qh3(old new:a7)(f:List Int→List Int→Bool)(y:List Int)(s:Stp):Bool:=(eqS (mu old s.1.toNat) ⟨#[]⟩&&f s.2.1 y)||qt2 new f (mu old s.1.toNat) s.2.1 y
def gb(old new:a7)(f:List Int→List Int→Bool)(x y:List Int):Bool:=
 (!decide (x=qkj old)||decide (y=qkj new))&& !decide ((aw old x).length<(enL old x).length)&&(aw old x).all (qh3 old new f y)
section
variable {old new : a7} (ho : Small old) (hn : Small new) (vo : bu old = true) (vn : bu new = true) {S : Mp} {f : List Int → List Int → Bool} (hS : Tab old.1 new.1 S f)
include ho hn vo vn hS
theorem jli{x y:List Int}(hx:bq old.1 x=true)(hy:bq new.1 y=true):ko x y S=some (f x y,S):=by
 obtain⟨p1,p2,_⟩:=ba vo ho;obtain⟨q1,q2,_⟩:=ba vn hn;have l1:=b7 hx;have l2:=b7 hy;unfold ko;rw[qzo x y (by omega) (by omega),ah,hS x y hx hy]
theorem jbu{y:List Int}(hy:bq new.1 y=true)(lab:ByteArray){s:Stp}(hs:bq old.1 s.2.1=true):
  bh (aw new y) new lab s S=some (qt2 new f lab s.2.1 y,S):=by
 have hlen:=qdt new y;have ht:=hn.trans;have h1:∀i,i<(aw new y).length→px ((aw new y).getD i ag.z) new lab s S=some ((eqS (mu new ((aw new y).getD i ag.z).1.toNat) lab&&f s.2.1 ((aw new y).getD i ag.z).2.1),S):=fun i hi=>by
  obtain⟨t,ht,hok,e⟩:=qhv hi;rw[e];have hm:=tl hn vn hy ht hok;have h2:=jli ho hn vo vn hS hs hm;unfold px mu uh;simp(disch:=omega)only[lb,rs];cases eqS (new.2.1.getD t af.z).1 lab with
  |false=>rfl
  |true=>
   simp only[cond_true,h2,ah];rfl
 have hL:ff (aw new y) new lab s ((aw new y).length:Int) (0,S)=some (match nj (fun a=>eqS (mu new a.1.toNat) lab&&f s.2.1 a.2.1) (aw new y)with|some i=> .inr ((i:Int),S)|none=> .inl S):=by
  refine qpx (aw new y) ag.z _ S (by omega) (fun i hi=> ?_) ?_
  ·simp(disch:=omega)only[ca,h1 i hi,rs];rw[ai];exact qe4
  ·simp(disch:=omega)only[ca,rs]
 unfold bh c9 qt2;rw[hL,ah,←qbt];cases nj (fun a=>eqS (mu new a.1.toNat) lab&&f s.2.1 a.2.1) (aw new y)with
 |none=>rfl
 |some i=>simp only[quf,ah,Option.isSome_some];rw[decide_eq_true (by omega)]
theorem jjw{x y:List Int}(hx:bq old.1 x=true)(hy:bq new.1 y=true):
  qeh y (aw new y) (aw old x) ((aw old x).length:Int) old.1 old.2.1 old.2.2.1 old.2.2.2.1 new.1 new.2.1 new.2.2.1 new.2.2.2.1 (0,S)=some (bif (aw old x).all (qh3 old new f y)then .inl S else .inr (false,S)):=by
 have hlen:=qdt old x;have ht:=ho.trans;have hst:∀i:Nat,i<(aw old x).length→il y (aw new y) (aw old x) ((aw old x).length:Int) old.1 old.2.1 old.2.2.1 old.2.2.2.1 new.1 new.2.1 new.2.2.1 new.2.2.2.1 (R:=LR (Int×Mp) Mp (Bool×Mp)) (i:Int) S (fun a' =>some (.next a')) (fun e=>some (.done e)) (fun r=>some (.ret r))=some (bif qh3 old new f y ((aw old x).getD i ag.z)then .next (((i+1:Nat):Int),S)else .ret (false,S)):=fun i hi=>by
  obtain⟨t,ht,hok,e⟩:=qhv hi;have hm:=tl ho vo hx ht hok;have h2:=jli ho hn vo vn hS hm hy;have h3:=jbu ho hn vo vn hS hy (mu old t) (s:=uh old x t) hm;have h3:bh (aw new y) (new.1,new.2.1,new.2.2.1,new.2.2.2.1,()) (old.2.1.getD t af.z).1 (uh old x t) S=some (qt2 new f (mu old t) (bm old x t).2 y,S):=h3;rw[e];unfold il qh3;rw[cg (by omega),ao (by omega) (by omega),ao (by omega) (by omega)];simp only[Int.toNat_natCast,e];have e1:(uh old x t).1=(t:Int):=rfl;have e2:(uh old x t).2.1=(bm old x t).2:=rfl;rw[e1,e2,ao (by omega) (by omega),ao (by omega) (by omega)];simp only[Int.toNat_natCast,lb];have e3:mu old t=(old.2.1.getD t af.z).1:=rfl;rw[e3]at h3⊢;simp(disch:=omega)only[h2,h3,ai,rs];cases eqS (old.2.1.getD t af.z).1 ⟨#[]⟩<;>cases f (bm old x t).2 y<;>cases qt2 new f (old.2.1.getD t af.z).1 (bm old x t).2 y<;>rfl
 have hall:=ou (step:=fun a:Int×Mp=>il y (aw new y) (aw old x) ((aw old x).length:Int) old.1 old.2.1 old.2.2.1 old.2.2.2.1 new.1 new.2.1 new.2.2.1 new.2.2.2.1 a.1 a.2 (fun a' =>some (.next a')) (fun e=>some (.done e)) (fun r=>some (.ret r)))
  (fun i:Nat=>((i:Int),S)) (aw old x).length (cr (by omega)) (fun i=>qh3 old new f y ((aw old x).getD i ag.z)) S (false,S) (fun i hi hp=>(hst i hi).trans (by rw[hp];rfl)) (fun i hi hp=>(hst i hi).trans (by rw[hp];rfl)) (by simp(disch:=omega)only[il,rs])
 rw[q9f]at hall;exact hall
theorem jhy{x y:List Int}(hx:bq old.1 x=true)(hy:bq new.1 y=true):s9 old new x y S=some (gb old new f x y,S):=by
 obtain⟨p1,p2,_⟩:=ba vo ho;obtain⟨q1,q2,_⟩:=ba vn hn;have l1:=b7 hx;have l2:=b7 hy;have hT:p0 x y S old.1 old.2.1 old.2.2.1 old.2.2.2.1 new.1 new.2.1 new.2.2.1 new.2.2.2.1=some (.inr ((!decide ((aw old x).length<(enL old x).length)&&(aw old x).all (qh3 old new f y)),S)):=by
  have e1:da (new.1,new.2.1,new.2.2.1,new.2.2.2.1,()) y=some (aw new y):=qhw hn vn hy;have e2:da (old.1,old.2.1,old.2.2.1,old.2.2.2.1,()) x=some (aw old x):=qhw ho vo hx;have e3:lu (old.1,old.2.1,old.2.2.1,old.2.2.2.1,()) x=some (0,enL old x):=by
   have:=qpm ho x (by omega);rw[vo,hx]at this;exact this
  have e4:decide (((aw old x).length:Int)<((enL old x).length:Int))=decide ((aw old x).length<(enL old x).length):=by rw[Bool.eq_iff_iff];simp
  unfold p0 ur;rw[e1,e2,e3];simp only[ah,e4];cases decide ((aw old x).length<(enL old x).length)with
  |true=>rfl
  |false=>
   simp only[cond_false];rw[jjw ho hn vo vn hS hx hy];cases(aw old x).all (qh3 old new f y)<;>rfl
 unfold s9 gb;rw[qqv ho vo,qqv hn vn];simp only[ah];rw[sx x _ (by omega),sx y _ (by omega),hT];simp only[ah];cases decide (x=qkj old)<;>cases decide (y=qkj new)<;>rfl
end
theorem jgx(l:List Pr)(hl:l.length≤1000000)(hp:∀p∈l,p.1.length≤1000∧p.2.1.length≤1000)(x y:List Int):qew l x y=some (n8 l x y):=by
 have hL:q2t l x y 0=some (bif l.any (fun p=>decide (p.1=x)&&decide (p.2.1=y))then .inr true else .inl ()):=by
  refine kc l ab.z (fun p=>decide (p.1=x)&&decide (p.2.1=y)) true (by omega) (fun i hi=> ?_) ?_
  ·obtain⟨h1,h2⟩:=hp _ (au ab.z hi);simp(disch:=omega)only[qfx,wz (l.getD i ab.z).1 x (by omega),wz (l.getD i ab.z).2.1 y (by omega),rs];rw[ai];cases decide ((l.getD i ab.z).1=x)<;>cases decide ((l.getD i ab.z).2.1=y)<;>rfl
  ·simp(disch:=omega)only[qfx,rs]
 unfold qew n8;rw[hL];cases l.any fun p=>decide (p.1=x)&&decide (p.2.1=y)<;>rfl
end Go.Proofs.YtdhfhpdadbopkaaGreat
