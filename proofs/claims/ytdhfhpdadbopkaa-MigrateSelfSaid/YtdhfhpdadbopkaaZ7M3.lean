/-
  Migrate: what can be fired; when a pair satisfies the conditions of a simulation.
-/
import Derived.Test.YtdhfhpdadbopkaaZ7M2
set_option linter.all false
namespace Go.Proofs.Ytdhfhpdadbopkaa
open Go.K Go.M
def xc(n:az)(m:List Int)(t:Nat):Bool:=decide ((bj n m t).1=0)
def xh(n:az)(m:List Int)(t:Nat):Stp:=((t:Int),(bj n m t).2,())
def okT(n:az)(m:List Int)(i:Nat):List Nat:=(List.range i).filter (xc n m)
def ar(n:az)(m:List Int):List Stp:=(okT n m n.2.1.length).map (xh n m)
theorem jef(n:az)(m:List Int)(i:Nat):okT n m (i+1)=if xc n m i=true then okT n m i++[i]else okT n m i:=by
 unfold okT;rw[List.range_succ,List.filter_append];split
 ·rename_i h;rw[q3d h]
 ·rename_i h;rw[qw8 (by simpa using h),List.append_nil]
theorem jac(n:az)(m:List Int)(i:Nat):(okT n m i).length≤i:=by
 have:=List.length_filter_le (xc n m) (List.range i);rwa[List.length_range]at this
theorem qg3{n:az}(h:Small n)(hv:bv n=true){m:List Int}(hm:bu n.1 m=true):c9 n m=some (ar n m):=by
 have ht:=h.trans;have hL:qir m (n.2.1.length:Int) n.1 n.2.1 n.2.2.1 n.2.2.2.1 (0,[])=some (.inl (ar n m)):=by
  refine nt (fun i=>((i:Int),(okT n m i).map (xh n m))) n.2.1.length (dl (by omega)) _ (fun i hi=> ?_) ?_ _ rfl
  ·have hF:=q9g h hv hm hi;have hlen:=jac n m i;have hl:((okT n m i).map (xh n m)).length=(okT n m i).length:=List.length_map _;have hF:qab (n.1,n.2.1,n.2.2.1,n.2.2.2.1,()) m (i:Int)=some (bj n m i):=hF;unfold tf;rw[cj (by omega),hF,jef];simp only[ah];cases ho:xc n m i with
   |true=>
    have:decide ((bj n m i).1=0)=true:=ho;rw[this,if_pos rfl,List.map_append];simp(disch:=omega)only[aj,hl,rs];rfl
   |false=>
    have:decide ((bj n m i).1=0)=false:=ho;rw[this,if_neg (by simp)];simp(disch:=omega)only[aj,rs]
  ·simp(disch:=omega)only[tf,rs];rfl
 unfold c9;rw[hL];rfl
theorem qg2{n:az}{m:List Int}{i:Nat}(hi:i<(ar n m).length):∃t,t<n.2.1.length∧xc n m t=true∧(ar n m).getD i ag.z=xh n m t:=by
 have h1:=aw ag.z hi;obtain⟨t,ht,e⟩:=List.mem_map.1 h1;have:=List.mem_filter.1 ht;exact⟨t,List.mem_range.1 this.1,this.2,e.symm⟩
theorem qdc(n:az)(m:List Int):(ar n m).length≤n.2.1.length:=by
 unfold ar;rw[List.length_map];exact jac _ _ _
theorem qaw{n:az}(h:Small n)(hv:bv n=true){m:List Int}(hm:bu n.1 m=true){t:Nat}(ht:t<n.2.1.length)(ho:xc n m t=true):bu n.1 (bj n m t).2=true:=qw9 h hv hm ht (of_decide_eq_true ho)
def q6w(n:az)(p:Int):List Int:=(List.replicate n.1.toNat (0:Int)).set p.toNat 1
abbrev qpn(n:az):List Int:=q6w n n.2.2.2.1
abbrev uv(n:az):List Int:=q6w n n.2.2.1
theorem jeg(n:az)(p:Int):(q6w n p).length=n.1.toNat:=by unfold q6w;rw[List.length_set,List.length_replicate]
theorem qyh{n:az}(h:Small n)(hv:bv n=true){p:Int}(hp:0≤p∧p<n.1):qgi n p=some (0,q6w n p)∧qdb n p=some (q6w n p):=by
 obtain⟨p1,p2,_⟩:=bi hv h;have hl:(List.replicate n.1.toNat (0:Int)).length=n.1.toNat:=List.length_replicate;constructor
 ·unfold qgi;rw[qpb h,hv];simp(disch:=omega)only[Bool.not_true,hl,rs];rfl
 ·unfold qdb;simp(disch:=omega)only[hl,rs];rfl
theorem qpa{n:az}(h:Small n)(hv:bv n=true):sj n=some (0,qpn n):=by
 obtain⟨p1,p2,p3,p4,p5,_⟩:=bi hv h;unfold sj;rw[(qyh h hv p5).1];rfl
theorem qws{n:az}(h:Small n)(hv:bv n=true):u4 n=some (uv n,0):=by
 obtain⟨p1,p2,p3,p4,p5,_⟩:=bi hv h;unfold u4;rw[(qyh h hv p4).1];rfl
theorem qd9{n:az}(h:Small n)(hv:bv n=true)(p:Int):bu n.1 (q6w n p)=true:=by
 obtain⟨p1,p2,_⟩:=bi hv h;refine qc9.2 ⟨by rw[jeg];omega,fun i hi=> ?_⟩;unfold q6w at hi⊢;rw[List.length_set,List.length_replicate]at hi;rw[List.getD_eq_getElem?_getD,List.getElem?_set];split
 ·split
  ·simp
  ·simp
 ·rw[List.getElem?_replicate,if_pos hi];simp
def ns(n:az)(t:Nat):ByteArray:=(n.2.1.getD t af.z).1
def qwv(new:az)(f:List Int→List Int→Bool)(lab:ByteArray)(x y:List Int):Bool:=(ar new y).any fun a=>eqS (ns new a.1.toNat) lab&&f x a.2.1
def qjr(old new:az)(f:List Int→List Int→Bool)(y:List Int)(s:Stp):Bool:=(eqS (ns old s.1.toNat) ⟨#[]⟩&&f s.2.1 y)||qwv new f (ns old s.1.toNat) s.2.1 y
def m6(old new:az)(f:List Int→List Int→Bool)(x y:List Int):Bool:=
 (!decide (x=qpn old)||decide (y=qpn new))&& !decide ((ar old x).length<(enL old x).length)&&(ar old x).all (qjr old new f y)
section
variable {old new : az} (ho : Small old) (hn : Small new) (vo : bv old = true) (vn : bv new = true) {S : Mp} {f : List Int → List Int → Bool} (hS : Tab old.1 new.1 S f)
include ho hn vo vn hS
theorem jhd{x y:List Int}(hx:bu old.1 x=true)(hy:bu new.1 y=true):k6 x y S=some (f x y,S):=by
 obtain⟨p1,p2,_⟩:=bi vo ho;obtain⟨q1,q2,_⟩:=bi vn hn;have l1:=c0 hx;have l2:=c0 hy;unfold k6;rw[qwl x y (by omega) (by omega),ah,hS x y hx hy]
theorem q7p{y:List Int}(hy:bu new.1 y=true)(lab:ByteArray){s:Stp}(hs:bu old.1 s.2.1=true):
  a7 (ar new y) new lab s S=some (qwv new f lab s.2.1 y,S):=by
 have hlen:=qdc new y;have ht:=hn.trans;have h1:∀i,i<(ar new y).length→pr ((ar new y).getD i ag.z) new lab s S=some ((eqS (ns new ((ar new y).getD i ag.z).1.toNat) lab&&f s.2.1 ((ar new y).getD i ag.z).2.1),S):=fun i hi=>by
  obtain⟨t,ht,hok,e⟩:=qg2 hi;rw[e];have hm:=qaw hn vn hy ht hok;have h2:=jhd ho hn vo vn hS hs hm;unfold pr ns xh;simp(disch:=omega)only[nr,rs];cases eqS (new.2.1.getD t af.z).1 lab with
  |false=>rfl
  |true=>
   simp only[cond_true,h2,ah];rfl
 have hL:fc (ar new y) new lab s ((ar new y).length:Int) (0,S)=some (match kz (fun a=>eqS (ns new a.1.toNat) lab&&f s.2.1 a.2.1) (ar new y)with|some i=> .inr ((i:Int),S)|none=> .inl S):=by
  refine qog (ar new y) ag.z _ S (by omega) (fun i hi=> ?_) ?_
  ·simp(disch:=omega)only[b8,h1 i hi,rs];rw[aj];exact y8
  ·simp(disch:=omega)only[b8,rs]
 unfold a7 c6 qwv;rw[hL,ah,←qbf];cases kz (fun a=>eqS (ns new a.1.toNat) lab&&f s.2.1 a.2.1) (ar new y)with
 |none=>rfl
 |some i=>simp only[qj9,ah,Option.isSome_some];rw[decide_eq_true (by omega)]
theorem jfs{x y:List Int}(hx:bu old.1 x=true)(hy:bu new.1 y=true):
  qd0 y (ar new y) (ar old x) ((ar old x).length:Int) old.1 old.2.1 old.2.2.1 old.2.2.2.1 new.1 new.2.1 new.2.2.1 new.2.2.2.1 (0,S)=some (bif (ar old x).all (qjr old new f y)then .inl S else .inr (false,S)):=by
 have hlen:=qdc old x;have ht:=ho.trans;have hst:∀i:Nat,i<(ar old x).length→io y (ar new y) (ar old x) ((ar old x).length:Int) old.1 old.2.1 old.2.2.1 old.2.2.2.1 new.1 new.2.1 new.2.2.1 new.2.2.2.1 (R:=LR (Int×Mp) Mp (Bool×Mp)) (i:Int) S (fun a' =>some (.next a')) (fun e=>some (.done e)) (fun r=>some (.ret r))=some (bif qjr old new f y ((ar old x).getD i ag.z)then .next (((i+1:Nat):Int),S)else .ret (false,S)):=fun i hi=>by
  obtain⟨t,ht,hok,e⟩:=qg2 hi;have hm:=qaw ho vo hx ht hok;have h2:=jhd ho hn vo vn hS hm hy;have h3:=q7p ho hn vo vn hS hy (ns old t) (s:=xh old x t) hm;have h3:a7 (ar new y) (new.1,new.2.1,new.2.2.1,new.2.2.2.1,()) (old.2.1.getD t af.z).1 (xh old x t) S=some (qwv new f (ns old t) (bj old x t).2 y,S):=h3;rw[e];unfold io qjr;rw[cj (by omega),ao (by omega) (by omega),ao (by omega) (by omega)];simp only[Int.toNat_natCast,e];have e1:(xh old x t).1=(t:Int):=rfl;have e2:(xh old x t).2.1=(bj old x t).2:=rfl;rw[e1,e2,ao (by omega) (by omega),ao (by omega) (by omega)];simp only[Int.toNat_natCast,nr];have e3:ns old t=(old.2.1.getD t af.z).1:=rfl;rw[e3]at h3⊢;simp(disch:=omega)only[h2,h3,aj,rs];cases eqS (old.2.1.getD t af.z).1 ⟨#[]⟩<;>cases f (bj old x t).2 y<;>cases qwv new f (old.2.1.getD t af.z).1 (bj old x t).2 y<;>rfl
 have hall:=r0 (step:=fun a:Int×Mp=>io y (ar new y) (ar old x) ((ar old x).length:Int) old.1 old.2.1 old.2.2.1 old.2.2.2.1 new.1 new.2.1 new.2.2.1 new.2.2.2.1 a.1 a.2 (fun a' =>some (.next a')) (fun e=>some (.done e)) (fun r=>some (.ret r)))
  (fun i:Nat=>((i:Int),S)) (ar old x).length (dl (by omega)) (fun i=>qjr old new f y ((ar old x).getD i ag.z)) S (false,S) (fun i hi hp=>(hst i hi).trans (by rw[hp];rfl)) (fun i hi hp=>(hst i hi).trans (by rw[hp];rfl)) (by simp(disch:=omega)only[io,rs])
 rw[q5j]at hall;exact hall
theorem jdt{x y:List Int}(hx:bu old.1 x=true)(hy:bu new.1 y=true):ta old new x y S=some (m6 old new f x y,S):=by
 obtain⟨p1,p2,_⟩:=bi vo ho;obtain⟨q1,q2,_⟩:=bi vn hn;have l1:=c0 hx;have l2:=c0 hy;have hT:pu x y S old.1 old.2.1 old.2.2.1 old.2.2.2.1 new.1 new.2.1 new.2.2.1 new.2.2.2.1=some (.inr ((!decide ((ar old x).length<(enL old x).length)&&(ar old x).all (qjr old new f y)),S)):=by
  have e1:c9 (new.1,new.2.1,new.2.2.1,new.2.2.2.1,()) y=some (ar new y):=qg3 hn vn hy;have e2:c9 (old.1,old.2.1,old.2.2.1,old.2.2.2.1,()) x=some (ar old x):=qg3 ho vo hx;have e3:l9 (old.1,old.2.1,old.2.2.1,old.2.2.2.1,()) x=some (0,enL old x):=by
   have:=qn5 ho x (by omega);rw[vo,hx]at this;exact this
  have e4:decide (((ar old x).length:Int)<((enL old x).length:Int))=decide ((ar old x).length<(enL old x).length):=by rw[Bool.eq_iff_iff];simp
  unfold pu uk;rw[e1,e2,e3];simp only[ah,e4];cases decide ((ar old x).length<(enL old x).length)with
  |true=>rfl
  |false=>
   simp only[cond_false];rw[jfs ho hn vo vn hS hx hy];cases(ar old x).all (qjr old new f y)<;>rfl
 unfold ta m6;rw[qpa ho vo,qpa hn vn];simp only[ah];rw[qv x _ (by omega),qv y _ (by omega),hT];simp only[ah];cases decide (x=qpn old)<;>cases decide (y=qpn new)<;>rfl
end
end Go.Proofs.Ytdhfhpdadbopkaa
