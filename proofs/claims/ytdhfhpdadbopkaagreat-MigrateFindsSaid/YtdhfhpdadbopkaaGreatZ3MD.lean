/-
  Migrate: the greatest simulation between markings. (The section on holds is printed by gen_md.py from M3.)
-/
import Derived.Test.YtdhfhpdadbopkaaGreatZ3MC
set_option linter.all false
namespace Go.Proofs.YtdhfhpdadbopkaaGreat
open Go.K Go.M
section
variable {old new : a7} (ho : Small old) (hn : Small new) (vo : bu old = true) (vn : bu new = true) {S : Mp} {f : List Int → List Int → Bool} (hS : Tab old.1 new.1 S f)
include ho hn vo vn hS
theorem jh1{x y:List Int}(hx:bq old.1 x=true)(hy:bq new.1 y=true):mm x y S=some (f x y,S):=by
 obtain⟨p1,p2,_⟩:=ba vo ho;obtain⟨q1,q2,_⟩:=ba vn hn;have l1:=b7 hx;have l2:=b7 hy;unfold mm;rw[qzo x y (by omega) (by omega),ah,hS x y hx hy]
theorem q9h{y:List Int}(hy:bq new.1 y=true)(lab:ByteArray){s:Stp}(hs:bq old.1 s.2.1=true):
  bg (aw new y) new lab s S=some (qt2 new f lab s.2.1 y,S):=by
 have hlen:=qdt new y;have ht:=hn.trans;have h1:∀i,i<(aw new y).length→pw ((aw new y).getD i ag.z) new lab s S=some ((eqS (mu new ((aw new y).getD i ag.z).1.toNat) lab&&f s.2.1 ((aw new y).getD i ag.z).2.1),S):=fun i hi=>by
  obtain⟨t,ht,hok,e⟩:=qhv hi;rw[e];have hm:=tl hn vn hy ht hok;have h2:=jh1 ho hn vo vn hS hs hm;unfold pw mu uh;simp(disch:=omega)only[lb,rs];cases eqS (new.2.1.getD t af.z).1 lab with
  |false=>rfl
  |true=>
   simp only[cond_true,h2,ah];rfl
 have hL:fc (aw new y) new lab s ((aw new y).length:Int) (0,S)=some (match nj (fun a=>eqS (mu new a.1.toNat) lab&&f s.2.1 a.2.1) (aw new y)with|some i=> .inr ((i:Int),S)|none=> .inl S):=by
  refine qpx (aw new y) ag.z _ S (by omega) (fun i hi=> ?_) ?_
  ·simp(disch:=omega)only[b9,h1 i hi,rs];rw[ai];exact qe4
  ·simp(disch:=omega)only[b9,rs]
 unfold bg c8 qt2;rw[hL,ah,←qbt];cases nj (fun a=>eqS (mu new a.1.toNat) lab&&f s.2.1 a.2.1) (aw new y)with
 |none=>rfl
 |some i=>simp only[quf,ah,Option.isSome_some];rw[decide_eq_true (by omega)]
theorem jg8{x y:List Int}(hx:bq old.1 x=true)(hy:bq new.1 y=true):
  qef y (aw new y) (aw old x) ((aw old x).length:Int) old.1 old.2.1 old.2.2.1 old.2.2.2.1 new.1 new.2.1 new.2.2.1 new.2.2.2.1 (0,S)=some (bif (aw old x).all (qh3 old new f y)then .inl S else .inr (false,S)):=by
 have hlen:=qdt old x;have ht:=ho.trans;have hst:∀i:Nat,i<(aw old x).length→ij y (aw new y) (aw old x) ((aw old x).length:Int) old.1 old.2.1 old.2.2.1 old.2.2.2.1 new.1 new.2.1 new.2.2.1 new.2.2.2.1 (R:=LR (Int×Mp) Mp (Bool×Mp)) (i:Int) S (fun a' =>some (.next a')) (fun e=>some (.done e)) (fun r=>some (.ret r))=some (bif qh3 old new f y ((aw old x).getD i ag.z)then .next (((i+1:Nat):Int),S)else .ret (false,S)):=fun i hi=>by
  obtain⟨t,ht,hok,e⟩:=qhv hi;have hm:=tl ho vo hx ht hok;have h2:=jh1 ho hn vo vn hS hm hy;have h3:=q9h ho hn vo vn hS hy (mu old t) (s:=uh old x t) hm;have h3:bg (aw new y) (new.1,new.2.1,new.2.2.1,new.2.2.2.1,()) (old.2.1.getD t af.z).1 (uh old x t) S=some (qt2 new f (mu old t) (bm old x t).2 y,S):=h3;rw[e];unfold ij qh3;rw[cg (by omega),ao (by omega) (by omega),ao (by omega) (by omega)];simp only[Int.toNat_natCast,e];have e1:(uh old x t).1=(t:Int):=rfl;have e2:(uh old x t).2.1=(bm old x t).2:=rfl;rw[e1,e2,ao (by omega) (by omega),ao (by omega) (by omega)];simp only[Int.toNat_natCast,lb];have e3:mu old t=(old.2.1.getD t af.z).1:=rfl;rw[e3]at h3⊢;simp(disch:=omega)only[h2,h3,ai,rs];cases eqS (old.2.1.getD t af.z).1 ⟨#[]⟩<;>cases f (bm old x t).2 y<;>cases qt2 new f (old.2.1.getD t af.z).1 (bm old x t).2 y<;>rfl
 have hall:=ou (step:=fun a:Int×Mp=>ij y (aw new y) (aw old x) ((aw old x).length:Int) old.1 old.2.1 old.2.2.1 old.2.2.2.1 new.1 new.2.1 new.2.2.1 new.2.2.2.1 a.1 a.2 (fun a' =>some (.next a')) (fun e=>some (.done e)) (fun r=>some (.ret r)))
  (fun i:Nat=>((i:Int),S)) (aw old x).length (cr (by omega)) (fun i=>qh3 old new f y ((aw old x).getD i ag.z)) S (false,S) (fun i hi hp=>(hst i hi).trans (by rw[hp];rfl)) (fun i hi hp=>(hst i hi).trans (by rw[hp];rfl)) (by simp(disch:=omega)only[ij,rs])
 rw[q9f]at hall;exact hall
theorem jfw{x y:List Int}(hx:bq old.1 x=true)(hy:bq new.1 y=true):s8 old new x y S=some (gb old new f x y,S):=by
 obtain⟨p1,p2,_⟩:=ba vo ho;obtain⟨q1,q2,_⟩:=ba vn hn;have l1:=b7 hx;have l2:=b7 hy;have hT:pz x y S old.1 old.2.1 old.2.2.1 old.2.2.2.1 new.1 new.2.1 new.2.2.1 new.2.2.2.1=some (.inr ((!decide ((aw old x).length<(enL old x).length)&&(aw old x).all (qh3 old new f y)),S)):=by
  have e1:da (new.1,new.2.1,new.2.2.1,new.2.2.2.1,()) y=some (aw new y):=qhw hn vn hy;have e2:da (old.1,old.2.1,old.2.2.1,old.2.2.2.1,()) x=some (aw old x):=qhw ho vo hx;have e3:lu (old.1,old.2.1,old.2.2.1,old.2.2.2.1,()) x=some (0,enL old x):=by
   have:=qpm ho x (by omega);rw[vo,hx]at this;exact this
  have e4:decide (((aw old x).length:Int)<((enL old x).length:Int))=decide ((aw old x).length<(enL old x).length):=by rw[Bool.eq_iff_iff];simp
  unfold pz uq;rw[e1,e2,e3];simp only[ah,e4];cases decide ((aw old x).length<(enL old x).length)with
  |true=>rfl
  |false=>
   simp only[cond_false];rw[jg8 ho hn vo vn hS hx hy];cases(aw old x).all (qh3 old new f y)<;>rfl
 unfold s8 gb;rw[qqv ho vo,qqv hn vn];simp only[ah];rw[sx x _ (by omega),sx y _ (by omega),hT];simp only[ah];cases decide (x=qkj old)<;>cases decide (y=qkj new)<;>rfl
end
def qnm(S:Mp):Prop:=(S.map Prod.fst).Nodup
theorem ja1(k:ByteArray)(x:Bool):∀(S:Mp) (q:ByteArray),q∈(tf .str k x S).map Prod.fst→q=k∨q∈S.map Prod.fst
 |[],q,h=>by
  have h:q∈[k]:=h;exact .inl (List.mem_singleton.1 h)
 |e::S,q,h=>by
  have h:q∈(bif ge k e.1 then(k,x)::S else e::tf .str k x S).map Prod.fst:=h;cases hk:ge k e.1 with
  |true=>
   rw[hk]at h;have h:q∈k::S.map Prod.fst:=h;exact(List.mem_cons.1 h).imp_right fun h=>List.mem_cons_of_mem _ h
  |false=>
   rw[hk]at h;have h:q∈e.1::(tf .str k x S).map Prod.fst:=h;rcases List.mem_cons.1 h with h|h
   ·exact .inr (by rw[h];exact List.mem_cons_self)
   ·exact(ja1 k x S q h).imp_right fun h=>List.mem_cons_of_mem _ h
theorem q9d(k:ByteArray)(x:Bool):∀{S:Mp},qnm S→qnm (tf .str k x S)
 |[],_=>by
  show([k]:List ByteArray).Nodup;simp
 |e::S,h=>by
  have h:(e.1::S.map Prod.fst).Nodup:=h;obtain⟨h1,h2⟩:=List.nodup_cons.1 h;show((bif ge k e.1 then(k,x)::S else e::tf .str k x S).map Prod.fst).Nodup;cases hk:ge k e.1 with
  |true=>
   show(k::S.map Prod.fst).Nodup;refine List.nodup_cons.2 ⟨?_,h2⟩;rw[mi.1 hk];exact h1
  |false=>
   show(e.1::(tf .str k x S).map Prod.fst).Nodup;refine List.nodup_cons.2 ⟨fun hm=> ?_,q9d k x (S:=S) h2⟩;rcases ja1 k x S _ hm with hm|hm
   ·rw[hm,qa6]at hk;cases hk
   ·exact h1 hm
theorem q90{k:ByteArray}:∀{S:Mp},¬k∈S.map Prod.fst→ls .str k S=none
 |[],_=>rfl
 |e::S,h=>by
  show(bif ge k e.1 then some e.2 else ls .str k S)=none;cases hk:ge k e.1 with
  |true=>exact absurd (by rw[mi.1 hk];exact List.mem_cons_self) h
  |false=>exact q90 fun hm=>h (List.mem_cons_of_mem _ hm)
theorem q5s(k k' :ByteArray):∀{S:Mp},qnm S→ls .str k (qe7 .str k' S)=bif ge k k' then none else ls .str k S
 |[],_=>by
  show(none:Option Bool)=bif ge k k' then none else none;cases ge k k' <;>rfl
 |e::S,h=>by
  have h:(e.1::S.map Prod.fst).Nodup:=h;obtain⟨h1,h2⟩:=List.nodup_cons.1 h;show ls .str k (bif ge k' e.1 then S else e::qe7 .str k' S)=bif ge k k' then none else bif ge k e.1 then some e.2 else ls .str k S;cases hk:ge k' e.1 with
  |true=>
   show ls .str k S=_;have e1:=mi.1 hk;cases hk' :ge k k' with
   |true=>
    rw[cond_true];refine q90 fun hm=>h1 ?_
    rw[←e1,←mi.1 hk'];exact hm
   |false=>
    rw[cond_false,←e1,hk',cond_false]
  |false=>
   show(bif ge k e.1 then some e.2 else ls .str k (qe7 .str k' S))=_;rw[q5s k k' (S:=S) h2];cases hk1:ge k e.1 with
   |false=>rfl
   |true=>
    cases hk2:ge k k' with
    |false=>rfl
    |true=>
     rw[←mi.1 hk2,hk1]at hk;cases hk
theorem q9v(k:ByteArray):∀(S:Mp),(qe7 .str k S).map Prod.fst|>.Sublist (S.map Prod.fst)
 |[]=>List.Sublist.refl _
 |e::S=>by
  show((bif ge k e.1 then S else e::qe7 .str k S).map Prod.fst).Sublist (e.1::S.map Prod.fst);cases ge k e.1 with
  |true=>exact List.sublist_cons_self _ _
  |false=>exact(q9v k S).cons₂ _
theorem q9c(k:ByteArray){S:Mp}(h:qnm S):qnm (qe7 .str k S):=List.Nodup.sublist (q9v k S) h
abbrev Fp:Type:=List Int→List Int→Bool
def qc4(f:Fp)(p:Pr):Fp:=fun x y=>f x y&& !(decide (p.1=x)&&decide (p.2.1=y))
theorem jdo{a b:Int}{S:Mp}{f:Fp}(h:Tab a b S f)(hu:qnm S){p:Pr}(hx:bq a p.1=true)(hy:bq b p.2.1=true):Tab a b (qe7 .str (rc p.1 p.2.1) S) (qc4 f p):=fun x y h1 h2=>by
 rw[q5s _ _ hu];unfold qc4;by_cases e:p.1=x∧p.2.1=y
 ·rw[e.1,e.2,qa6,decide_eq_true rfl,decide_eq_true rfl];show false=(f x y&&false);rw[Bool.and_false]
 ·have l1:=b7 hx;have l2:=b7 h1;have hn:ge (rc x y) (rc p.1 p.2.1)=false:=by
   cases hq:ge (rc x y) (rc p.1 p.2.1)with
   |false=>rfl
   |true=>
    obtain⟨e1,e2⟩:=q5x (by omega) (ru h1) (ru hx) (ru h2) (ru hy) (mi.1 hq);exact absurd ⟨e1.symm,e2.symm⟩ e
  have hd:(decide (p.1=x)&&decide (p.2.1=y))=false:=by
   rw[Bool.and_eq_false_iff,decide_eq_false_iff_not,decide_eq_false_iff_not];by_cases e1:p.1=x
   ·exact .inr fun e2=>e ⟨e1,e2⟩
   ·exact .inl e1
  rw[hn,cond_false,h x y h1 h2,hd,Bool.not_false,Bool.and_true]
def LeF(f g:Fp):Prop:=∀x y,f x y=true→g x y=true
theorem q5k{old new:a7}{f g:Fp}(h:LeF f g){x y:List Int}(hh:gb old new f x y=true):gb old new g x y=true:=by
 refine jkh (fun e=>jhx hh e) fun t ht hc=> ?_
 obtain⟨h1,h2⟩:=jfv hh ht hc;exact⟨h1,h2.imp (fun k=>⟨k.1,h _ _ k.2⟩) fun⟨u,k1,k2,k3,k4⟩=>⟨u,k1,k2,k3,h _ _ k4⟩⟩
def xu(old new:a7)(s:List Pr×Fp)(p:Pr):List Pr×Fp:=bif gb old new s.2 p.1 p.2.1 then(s.1++[p],s.2)else(s.1,qc4 s.2 p)
def iv(old new:a7)(f:Fp)(l:List Pr):List Pr×Fp:=l.foldl (xu old new) ([],f)
theorem q1k(old new:a7)(f:Fp)(l:List Pr)(p:Pr):iv old new f (l++[p])=xu old new (iv old new f l) p:=by
 unfold iv;rw[List.foldl_append];rfl
def Sim(old new:a7)(D:Fp):Prop:=∀x y,D x y=true→gb old new D x y=true
theorem q0h(l l' :List Pr)(x y:List Int):n8 (l++l') x y=(n8 l x y||n8 l' x y):=by unfold n8;rw[List.any_append]
theorem jh0(p:Pr)(l:List Pr)(x y:List Int):n8 (p::l) x y=((decide (p.1=x)&&decide (p.2.1=y))||n8 l x y):=rfl
theorem qpr{old new:a7}:∀(l:List Pr) (s:List Pr×Fp),LeF s.2 (n8 (s.1++l))→
  LeF (l.foldl (xu old new) s).2 (n8 (l.foldl (xu old new) s).1)∧LeF (l.foldl (xu old new) s).2 s.2∧(l.foldl (xu old new) s).1.Sublist (s.1++l)∧
  (∀D,Sim old new D→LeF D s.2→LeF D (l.foldl (xu old new) s).2)∧(s.1.length+l.length≤(l.foldl (xu old new) s).1.length→(l.foldl (xu old new) s)=(s.1++l,s.2)∧∀p∈l,gb old new s.2 p.1 p.2.1=true)
 |[],s,h=>by
  rw[List.foldl_nil];rw[List.append_nil]at h⊢;exact⟨h,fun _ _ h=>h,List.Sublist.refl _,fun _ _ h=>h,fun _=>⟨rfl,fun p hp=>by cases hp⟩⟩
 |p::l,s,h=>by
  rw[List.foldl_cons];cases hh:gb old new s.2 p.1 p.2.1 with
  |true=>
   have e:xu old new s p=(s.1++[p],s.2):=by unfold xu;rw[hh];rfl
   rw[e];have h' :LeF (s.1++[p],s.2).2 (n8 ((s.1++[p],s.2).1++l)):=by
    show LeF s.2 (n8 ((s.1++[p])++l));rw[List.append_assoc];exact h
   obtain⟨h1,h2,h3,h4,h5⟩:=qpr l (s.1++[p],s.2) h';refine⟨h1,h2,?_,h4,fun hl=> ?_⟩
   ·have:((s.1++[p],s.2).1++l)=s.1++p::l:=by show(s.1++[p])++l=_;rw[List.append_assoc];rfl
    rw[←this];exact h3
   ·obtain⟨h6,h7⟩:=h5 (by show(s.1++[p]).length+l.length≤_;rw[List.length_append,List.length_singleton];rw[List.length_cons]at hl;omega);refine⟨by rw[h6];show((s.1++[p])++l,s.2)=_;rw[List.append_assoc];rfl,fun q hq=> ?_⟩;rcases List.mem_cons.1 hq with rfl|hq
    ·exact hh
    ·exact h7 q hq
  |false=>
   have e:xu old new s p=(s.1,qc4 s.2 p):=by unfold xu;rw[hh];rfl
   rw[e];have hle:LeF (qc4 s.2 p) s.2:=fun x y hm=>by
    unfold qc4 at hm;rw[Bool.and_eq_true]at hm;exact hm.1
   have h' :LeF (s.1,qc4 s.2 p).2 (n8 ((s.1,qc4 s.2 p).1++l)):=fun x y hm=>by
    have hm:qc4 s.2 p x y=true:=hm;have h1:=h x y (hle x y hm);unfold qc4 at hm;rw[Bool.and_eq_true,Bool.not_eq_true']at hm;show n8 (s.1++l) x y=true;rw[q0h,jh0,hm.2,Bool.false_or]at h1;rw[q0h];exact h1
   obtain⟨h1,h2,h3,h4,h5⟩:=qpr l (s.1,qc4 s.2 p) h';have hlen:=h3.length_le;refine⟨h1,fun x y hm=>hle x y (h2 x y hm),h3.trans ((List.sublist_cons_self p l).append_left _),fun D hD hle' =>h4 D hD fun x y hd=> ?_,fun hl=> ?_⟩
   ·show qc4 s.2 p x y=true;unfold qc4;rw[hle' x y hd,Bool.true_and];cases hq:(decide (p.1=x)&&decide (p.2.1=y))with
    |false=>rfl
    |true=>
     rw[Bool.and_eq_true,decide_eq_true_iff,decide_eq_true_iff]at hq;rw[hq.1,hq.2,q5k hle' (hD x y hd)]at hh;cases hh
   ·rw[List.length_append]at hlen;rw[List.length_cons]at hl;have:(s.1,qc4 s.2 p).1.length=s.1.length:=rfl;omega
section
variable {old new : a7} (ho : Small old) (hn : Small new) (vo : bu old = true) (vn : bu new = true)
include ho hn vo vn
theorem jaw{p:Pr}(h1:bq old.1 p.1=true)(h2:bq new.1 p.2.1=true):jl p.1 p.2.1=some (rc p.1 p.2.1):=by
 obtain⟨p1,p2,_⟩:=ba vo ho;obtain⟨q1,q2,_⟩:=ba vn hn;have l1:=b7 h1;have l2:=b7 h2;exact qzo _ _ (by omega) (by omega)
theorem qnc{S:Mp}{f:Fp}(hS:Tab old.1 new.1 S f){p:Pr}(h1:bq old.1 p.1=true)(h2:bq new.1 p.2.1=true):
  jd p old new S=some (bif gb old new f p.1 p.2.1 then(false,S)else(true,qe7 .str (rc p.1 p.2.1) S)):=by
 unfold jd;rw[ao (by omega) (by omega),ao (by omega) (by omega),jfw ho hn vo vn hS h1 h2,ah];cases gb old new f p.1 p.2.1 with
 |true=>rfl
 |false=>
  dsimp only[cond_false];rw[jaw ho hn vo vn h1 h2,ah]
theorem jbq{l:List Pr}(hp:PM old new l)(hl:l.length≤1000000){S:Mp}{f:Fp}(hS:Tab old.1 new.1 S f)(hu:qnm S):
  ∃S',c0 old new l S=some ((iv old new f l).1,S')∧Tab old.1 new.1 S' (iv old new f l).2∧qnm S' :=by
 have hall:∀q:List Pr,(∀p∈q,gb old new f p.1 p.2.1=true)→iv old new f q=(q,f):=fun q hq=>by
  have hgen:∀(q k:List Pr),(∀p∈q,gb old new f p.1 p.2.1=true)→q.foldl (xu old new) (k,f)=(k++q,f):=by
   intro q
   induction q with
   |nil=>intro k _;rw[List.foldl_nil,List.append_nil]
   |cons p q ih=>
    intro k hq;rw[List.foldl_cons];have e:xu old new (k,f) p=(k++[p],f):=by
     unfold xu;rw[hq p List.mem_cons_self];rfl
    rw[e,ih _ fun p' hp' =>hq p' (List.mem_cons_of_mem _ hp'),List.append_assoc];rfl
  exact hgen q [] hq
 unfold c0 gk;cases hf:nj (fun p:Pr=> !gb old new f p.1 p.2.1) l with
 |none=>
  have hh:∀p∈l,gb old new f p.1 p.2.1=true:=fun p hp=>by
   have:=qdm hf p hp;simpa using this
  have hL:fu l old new (l.length:Int) (0,S)=some (.inl S):=by
   refine f9 (fun i=>((i:Int),S)) l.length (cr (by omega)) _ (fun i hi=> ?_) ?_ _ rfl
   ·have hm:=au ab.z hi;have hg:=qnc ho hn vo vn hS (hp _ hm).1 (hp _ hm).2;rw[hh _ hm,cond_true]at hg;unfold b8;rw[cg (by omega),ao (by omega) (by omega),ao (by omega) (by omega)];simp only[Int.toNat_natCast];rw[hg,ah];dsimp only[cond_false];rw[br (by omega) (by omega),ai]
   ·unfold b8;rw[cp (by omega)]
  rw[hL,ah,gf,ah,hall l hh];exact⟨S,rfl,hS,hu⟩
 |some k=>
  obtain⟨k1,k2,k3⟩:=qdn ab.z hf;have hk2:gb old new f (l.getD k ab.z).1 (l.getD k ab.z).2.1=false:=by simpa using k2
  have hmk:=hp _ (au ab.z k1);have hL:fu l old new (l.length:Int) (0,S)=some (.inr ((k:Int),qe7 .str (rc (l.getD k ab.z).1 (l.getD k ab.z).2.1) S)):=by
   refine qif (fun i:Nat=>((i:Int),S)) k (cr (by omega)) (.ret ((k:Int),qe7 .str (rc (l.getD k ab.z).1 (l.getD k ab.z).2.1) S)) _ rfl (fun i hi=> ?_) ?_
   ·have hm:=au ab.z (show i<l.length by omega);have hg:=qnc ho hn vo vn hS (hp _ hm).1 (hp _ hm).2;have hk:=k3 i hi;rw[Bool.not_eq_false']at hk;rw[hk,cond_true]at hg;unfold b8;rw[cg (by omega),ao (by omega) (by omega),ao (by omega) (by omega)];simp only[Int.toNat_natCast];rw[hg,ah];dsimp only[cond_false];rw[br (by omega) (by omega),ai];rfl
   ·have hg:=qnc ho hn vo vn hS hmk.1 hmk.2;rw[hk2,cond_false]at hg;unfold b8;rw[cg (by omega),ao (by omega) (by omega),ao (by omega) (by omega)];simp only[Int.toNat_natCast];rw[hg,ah];rfl
  have hpre:iv old new f (l.take (k+1))=(l.take k,qc4 f (l.getD k ab.z)):=by
   rw[a8 l k ab.z k1,q1k,hall (l.take k) fun p hp=>by
    obtain⟨j,hj,rfl⟩:=ov ab.z hp;have hj' :j<k:=by simp at hj;omega
    have e2:(l.take k).getD j ab.z=l.getD j ab.z:=by simp[List.getD_eq_getElem?_getD,List.getElem?_take,hj']
    rw[e2];have:=k3 j hj';rwa[Bool.not_eq_false']at this]
   unfold xu;rw[hk2];rfl
  have htk:(l.take k).length=k:=by rw[List.length_take];omega
  have hloop:∃o,j8 old new ((k:Int),(k:Int)+1,l,qe7 .str (rc (l.getD k ab.z).1 (l.getD k ab.z).2.1) S)=some o∧∃(i:Nat) (s:List Pr) (S' :Mp),o= .inl ((i:Int),s,S')∧s.length=l.length∧i≤l.length∧s.take i=(iv old new f l).1∧Tab old.1 new.1 S' (iv old new f l).2∧qnm S' :=by
   refine ig (fun(st:Int×Int×List Pr×Mp)=>∃i j:Nat,st.1=(i:Int)∧st.2.1=(j:Int)∧i<j∧j≤l.length∧st.2.2.1.length=l.length∧st.2.2.1.take i=(iv old new f (l.take j)).1∧(∀m,j≤m→st.2.2.1.getD m ab.z=l.getD m ab.z)∧Tab old.1 new.1 st.2.2.2 (iv old new f (l.take j)).2∧qnm st.2.2.2) (fun st=>((l.length:Int)-st.2.1).toNat)
    (fun(o:(Int×List Pr×Mp)⊕(List Pr×Mp))=>∃(i:Nat) (s:List Pr) (S' :Mp),o= .inl ((i:Int),s,S')∧s.length=l.length∧i≤l.length∧s.take i=(iv old new f l).1∧Tab old.1 new.1 S' (iv old new f l).2∧qnm S') _ ⟨k,k+1,rfl,ai k,by omega,by omega,rfl,by rw[hpre],fun _ _=>rfl,by rw[hpre];exact jdo hS hu hmk.1 hmk.2,q9c _ hu⟩ (by show((l.length:Int)-((k:Int)+1)).toNat<many;unfold many;omega) ?_
   rintro⟨_,_,s,T⟩ ⟨i,j,rfl,rfl,hij,hj,hsl,hst,hrest,hT,hTu⟩;have hsl:s.length=l.length:=hsl;have hst:s.take i=(iv old new f (l.take j)).1:=hst;have hrest:∀m,j≤m→s.getD m ab.z=l.getD m ab.z:=hrest;have hT:Tab old.1 new.1 T (iv old new f (l.take j)).2:=hT;have hTu:qnm T:=hTu;by_cases hlt:j<l.length
   ·have hsj:=hrest j (Nat.le_refl j);have hm:=hp _ (au ab.z hlt);have hg:=qnc ho hn vo vn hT hm.1 hm.2;have hμ:((l.length:Int)-((j+1:Nat):Int)).toNat<((l.length:Int)-(j:Int)).toNat:=by omega
    have hps:iv old new f (l.take (j+1))=xu old new (iv old new f (l.take j)) (l.getD j ab.z):=by rw[a8 l j ab.z hlt,q1k]
    cases hh:gb old new (iv old new f (l.take j)).2 (l.getD j ab.z).1 (l.getD j ab.z).2.1 with
    |false=>
     rw[hh,cond_false]at hg;have hp1:iv old new f (l.take (j+1))=((iv old new f (l.take j)).1,qc4 (iv old new f (l.take j)).2 (l.getD j ab.z)):=by
      rw[hps];unfold xu;rw[hh];rfl
     refine⟨.next ((i:Int),((j+1:Nat):Int),s,qe7 .str (rc (l.getD j ab.z).1 (l.getD j ab.z).2.1) T),?_,⟨i,j+1,rfl,rfl,by omega,by omega,hsl,by rw[hp1];exact hst,fun m hm=>hrest m (by omega),by rw[hp1];exact jdo hT hTu hm.1 hm.2,q9c _ hTu⟩,hμ⟩;unfold cn;dsimp only;rw[cg (by omega),ao (by omega) (by omega),ao (by omega) (by omega)];simp only[Int.toNat_natCast,hsj];rw[hg,ah];dsimp only;rw[Bool.not_true,cond_false,br (by omega) (by omega),ai]
    |true=>
     rw[hh,cond_true]at hg;have hp1:iv old new f (l.take (j+1))=((iv old new f (l.take j)).1++[l.getD j ab.z],(iv old new f (l.take j)).2):=by
      rw[hps];unfold xu;rw[hh];rfl
     refine⟨.next (((i+1:Nat):Int),((j+1:Nat):Int),s.set i (l.getD j ab.z),T),?_,⟨i+1,j+1,rfl,rfl,by omega,by omega,by show(s.set i _).length=_;rw[List.length_set];exact hsl,?_,fun m hm=> ?_,by rw[hp1];exact hT,hTu⟩,hμ⟩
     ·unfold cn;dsimp only;rw[cg (by omega),ao (by omega) (by omega),ao (by omega) (by omega)];simp only[Int.toNat_natCast,hsj];rw[hg,ah];dsimp only;rw[Bool.not_false,cond_true,ao (by omega) (by omega),ao (by omega) (by omega),br (by omega) (by omega),br (by omega) (by omega),ai,ai]
     ·show(s.set i (l.getD j ab.z)).take (i+1)=_;rw[hp1,a8 _ i ab.z (by rw[List.length_set];omega),List.take_set_of_le (Nat.le_refl i),hst];have e1:(s.set i (l.getD j ab.z)).getD i ab.z=l.getD j ab.z:=by
       rw[List.getD_eq_getElem?_getD,List.getElem?_set_self (by omega)];rfl
      rw[e1]
     ·show(s.set i (l.getD j ab.z)).getD m ab.z=_;rw[←hrest m (by omega),List.getD_eq_getElem?_getD,List.getElem?_set_ne (by omega),←List.getD_eq_getElem?_getD]
   ·obtain rfl:j=l.length:=by omega
    rw[List.take_length]at hst hT;refine⟨.done ((i:Int),s,T),?_,i,s,T,rfl,hsl,by omega,hst,hT,hTu⟩;unfold cn;dsimp only;rw[cp (by omega)]
  obtain⟨_,hlo,i,s,S',rfl,hsl,hi,hst,hT,hTu⟩:=hloop;have hne:decide ((k:Int)= -1)=false:=decide_eq_false (by omega);refine⟨S',?_,hT,hTu⟩;rw[hL,ah,quf,ah];dsimp only;rw[hne,cond_false,br (by omega) (by omega),hlo,ah,gf];simp only[Int.toNat_natCast,List.drop_zero,Int.toNat_zero,Nat.sub_zero];have hlen:(mw s i (s.length-i) (List.replicate (s.length-i) (ab.z:ab))).length=s.length:=by
   unfold mw;simp;omega
  rw[qq3 (by omega) (by omega) (by omega),qq3 (by omega) (by omega) (by rw[hlen];omega)];have htake:(mw s i (s.length-i) (List.replicate (s.length-i) (ab.z:ab))).take i=s.take i:=by
   unfold mw;have hl:(s.take i).length=i:=by rw[List.length_take];omega
   rw[List.take_append_of_le_length (by omega),List.take_take,Nat.min_self]
  rw[htake,hst]
end
end Go.Proofs.YtdhfhpdadbopkaaGreat
