/-
  Migrate: the greatest simulation between markings. (The section on holds is printed by gen_md.py from M3.)
-/
import Derived.Test.YtdhfhpdadbopkaaZ7MC
set_option linter.all false
namespace Go.Proofs.Ytdhfhpdadbopkaa
open Go.K Go.M
section
variable {old new : az} (ho : Small old) (hn : Small new) (vo : bv old = true) (vn : bv new = true) {S : Mp} {f : List Int → List Int → Bool} (hS : Tab old.1 new.1 S f)
include ho hn vo vn hS
theorem jdy{x y:List Int}(hx:bu old.1 x=true)(hy:bu new.1 y=true):mu x y S=some (f x y,S):=by
 obtain⟨p1,p2,_⟩:=bi vo ho;obtain⟨q1,q2,_⟩:=bi vn hn;have l1:=c0 hx;have l2:=c0 hy;unfold mu;rw[qwl x y (by omega) (by omega),ah,hS x y hx hy]
theorem q5l{y:List Int}(hy:bu new.1 y=true)(lab:ByteArray){s:Stp}(hs:bu old.1 s.2.1=true):
  a8 (ar new y) new lab s S=some (qwv new f lab s.2.1 y,S):=by
 have hlen:=qdc new y;have ht:=hn.trans;have h1:∀i,i<(ar new y).length→pt ((ar new y).getD i ag.z) new lab s S=some ((eqS (ns new ((ar new y).getD i ag.z).1.toNat) lab&&f s.2.1 ((ar new y).getD i ag.z).2.1),S):=fun i hi=>by
  obtain⟨t,ht,hok,e⟩:=qg2 hi;rw[e];have hm:=qaw hn vn hy ht hok;have h2:=jdy ho hn vo vn hS hs hm;unfold pt ns xh;simp(disch:=omega)only[nr,rs];cases eqS (new.2.1.getD t af.z).1 lab with
  |false=>rfl
  |true=>
   simp only[cond_true,h2,ah];rfl
 have hL:ff (ar new y) new lab s ((ar new y).length:Int) (0,S)=some (match kz (fun a=>eqS (ns new a.1.toNat) lab&&f s.2.1 a.2.1) (ar new y)with|some i=> .inr ((i:Int),S)|none=> .inl S):=by
  refine qog (ar new y) ag.z _ S (by omega) (fun i hi=> ?_) ?_
  ·simp(disch:=omega)only[b9,h1 i hi,rs];rw[aj];exact y8
  ·simp(disch:=omega)only[b9,rs]
 unfold a8 c7 qwv;rw[hL,ah,←qbf];cases kz (fun a=>eqS (ns new a.1.toNat) lab&&f s.2.1 a.2.1) (ar new y)with
 |none=>rfl
 |some i=>simp only[qj9,ah,Option.isSome_some];rw[decide_eq_true (by omega)]
theorem jc1{x y:List Int}(hx:bu old.1 x=true)(hy:bu new.1 y=true):
  qd2 y (ar new y) (ar old x) ((ar old x).length:Int) old.1 old.2.1 old.2.2.1 old.2.2.2.1 new.1 new.2.1 new.2.2.1 new.2.2.2.1 (0,S)=some (bif (ar old x).all (qjr old new f y)then .inl S else .inr (false,S)):=by
 have hlen:=qdc old x;have ht:=ho.trans;have hst:∀i:Nat,i<(ar old x).length→iq y (ar new y) (ar old x) ((ar old x).length:Int) old.1 old.2.1 old.2.2.1 old.2.2.2.1 new.1 new.2.1 new.2.2.1 new.2.2.2.1 (R:=LR (Int×Mp) Mp (Bool×Mp)) (i:Int) S (fun a' =>some (.next a')) (fun e=>some (.done e)) (fun r=>some (.ret r))=some (bif qjr old new f y ((ar old x).getD i ag.z)then .next (((i+1:Nat):Int),S)else .ret (false,S)):=fun i hi=>by
  obtain⟨t,ht,hok,e⟩:=qg2 hi;have hm:=qaw ho vo hx ht hok;have h2:=jdy ho hn vo vn hS hm hy;have h3:=q5l ho hn vo vn hS hy (ns old t) (s:=xh old x t) hm;have h3:a8 (ar new y) (new.1,new.2.1,new.2.2.1,new.2.2.2.1,()) (old.2.1.getD t af.z).1 (xh old x t) S=some (qwv new f (ns old t) (bj old x t).2 y,S):=h3;rw[e];unfold iq qjr;rw[cj (by omega),ao (by omega) (by omega),ao (by omega) (by omega)];simp only[Int.toNat_natCast,e];have e1:(xh old x t).1=(t:Int):=rfl;have e2:(xh old x t).2.1=(bj old x t).2:=rfl;rw[e1,e2,ao (by omega) (by omega),ao (by omega) (by omega)];simp only[Int.toNat_natCast,nr];have e3:ns old t=(old.2.1.getD t af.z).1:=rfl;rw[e3]at h3⊢;simp(disch:=omega)only[h2,h3,aj,rs];cases eqS (old.2.1.getD t af.z).1 ⟨#[]⟩<;>cases f (bj old x t).2 y<;>cases qwv new f (old.2.1.getD t af.z).1 (bj old x t).2 y<;>rfl
 have hall:=r0 (step:=fun a:Int×Mp=>iq y (ar new y) (ar old x) ((ar old x).length:Int) old.1 old.2.1 old.2.2.1 old.2.2.2.1 new.1 new.2.1 new.2.2.1 new.2.2.2.1 a.1 a.2 (fun a' =>some (.next a')) (fun e=>some (.done e)) (fun r=>some (.ret r)))
  (fun i:Nat=>((i:Int),S)) (ar old x).length (dl (by omega)) (fun i=>qjr old new f y ((ar old x).getD i ag.z)) S (false,S) (fun i hi hp=>(hst i hi).trans (by rw[hp];rfl)) (fun i hi hp=>(hst i hi).trans (by rw[hp];rfl)) (by simp(disch:=omega)only[iq,rs])
 rw[q5j]at hall;exact hall
theorem jbs{x y:List Int}(hx:bu old.1 x=true)(hy:bu new.1 y=true):tc old new x y S=some (m6 old new f x y,S):=by
 obtain⟨p1,p2,_⟩:=bi vo ho;obtain⟨q1,q2,_⟩:=bi vn hn;have l1:=c0 hx;have l2:=c0 hy;have hT:pw x y S old.1 old.2.1 old.2.2.1 old.2.2.2.1 new.1 new.2.1 new.2.2.1 new.2.2.2.1=some (.inr ((!decide ((ar old x).length<(enL old x).length)&&(ar old x).all (qjr old new f y)),S)):=by
  have e1:c9 (new.1,new.2.1,new.2.2.1,new.2.2.2.1,()) y=some (ar new y):=qg3 hn vn hy;have e2:c9 (old.1,old.2.1,old.2.2.1,old.2.2.2.1,()) x=some (ar old x):=qg3 ho vo hx;have e3:l9 (old.1,old.2.1,old.2.2.1,old.2.2.2.1,()) x=some (0,enL old x):=by
   have:=qn5 ho x (by omega);rw[vo,hx]at this;exact this
  have e4:decide (((ar old x).length:Int)<((enL old x).length:Int))=decide ((ar old x).length<(enL old x).length):=by rw[Bool.eq_iff_iff];simp
  unfold pw ul;rw[e1,e2,e3];simp only[ah,e4];cases decide ((ar old x).length<(enL old x).length)with
  |true=>rfl
  |false=>
   simp only[cond_false];rw[jc1 ho hn vo vn hS hx hy];cases(ar old x).all (qjr old new f y)<;>rfl
 unfold tc m6;rw[qpa ho vo,qpa hn vn];simp only[ah];rw[qv x _ (by omega),qv y _ (by omega),hT];simp only[ah];cases decide (x=qpn old)<;>cases decide (y=qpn new)<;>rfl
end
def qmb(S:Mp):Prop:=(S.map Prod.fst).Nodup
theorem q62(k:ByteArray)(x:Bool):∀(S:Mp) (q:ByteArray),q∈(tj .str k x S).map Prod.fst→q=k∨q∈S.map Prod.fst
 |[],q,h=>by
  have h:q∈[k]:=h;exact .inl (List.mem_singleton.1 h)
 |e::S,q,h=>by
  have h:q∈(bif gp k e.1 then(k,x)::S else e::tj .str k x S).map Prod.fst:=h;cases hk:gp k e.1 with
  |true=>
   rw[hk]at h;have h:q∈k::S.map Prod.fst:=h;exact(List.mem_cons.1 h).imp_right fun h=>List.mem_cons_of_mem _ h
  |false=>
   rw[hk]at h;have h:q∈e.1::(tj .str k x S).map Prod.fst:=h;rcases List.mem_cons.1 h with h|h
   ·exact .inr (by rw[h];exact List.mem_cons_self)
   ·exact(q62 k x S q h).imp_right fun h=>List.mem_cons_of_mem _ h
theorem q5f(k:ByteArray)(x:Bool):∀{S:Mp},qmb S→qmb (tj .str k x S)
 |[],_=>by
  show([k]:List ByteArray).Nodup;simp
 |e::S,h=>by
  have h:(e.1::S.map Prod.fst).Nodup:=h;obtain⟨h1,h2⟩:=List.nodup_cons.1 h;show((bif gp k e.1 then(k,x)::S else e::tj .str k x S).map Prod.fst).Nodup;cases hk:gp k e.1 with
  |true=>
   show(k::S.map Prod.fst).Nodup;refine List.nodup_cons.2 ⟨?_,h2⟩;rw[mr.1 hk];exact h1
  |false=>
   show(e.1::(tj .str k x S).map Prod.fst).Nodup;refine List.nodup_cons.2 ⟨fun hm=> ?_,q5f k x (S:=S) h2⟩;rcases q62 k x S _ hm with hm|hm
   ·rw[hm,qao]at hk;cases hk
   ·exact h1 hm
theorem q55{k:ByteArray}:∀{S:Mp},¬k∈S.map Prod.fst→l8 .str k S=none
 |[],_=>rfl
 |e::S,h=>by
  show(bif gp k e.1 then some e.2 else l8 .str k S)=none;cases hk:gp k e.1 with
  |true=>exact absurd (by rw[mr.1 hk];exact List.mem_cons_self) h
  |false=>exact q55 fun hm=>h (List.mem_cons_of_mem _ hm)
theorem q19(k k' :ByteArray):∀{S:Mp},qmb S→l8 .str k (qem .str k' S)=bif gp k k' then none else l8 .str k S
 |[],_=>by
  show(none:Option Bool)=bif gp k k' then none else none;cases gp k k' <;>rfl
 |e::S,h=>by
  have h:(e.1::S.map Prod.fst).Nodup:=h;obtain⟨h1,h2⟩:=List.nodup_cons.1 h;show l8 .str k (bif gp k' e.1 then S else e::qem .str k' S)=bif gp k k' then none else bif gp k e.1 then some e.2 else l8 .str k S;cases hk:gp k' e.1 with
  |true=>
   show l8 .str k S=_;have e1:=mr.1 hk;cases hk' :gp k k' with
   |true=>
    rw[cond_true];refine q55 fun hm=>h1 ?_
    rw[←e1,←mr.1 hk'];exact hm
   |false=>
    rw[cond_false,←e1,hk',cond_false]
  |false=>
   show(bif gp k e.1 then some e.2 else l8 .str k (qem .str k' S))=_;rw[q19 k k' (S:=S) h2];cases hk1:gp k e.1 with
   |false=>rfl
   |true=>
    cases hk2:gp k k' with
    |false=>rfl
    |true=>
     rw[←mr.1 hk2,hk1]at hk;cases hk
theorem q50(k:ByteArray):∀(S:Mp),(qem .str k S).map Prod.fst|>.Sublist (S.map Prod.fst)
 |[]=>List.Sublist.refl _
 |e::S=>by
  show((bif gp k e.1 then S else e::qem .str k S).map Prod.fst).Sublist (e.1::S.map Prod.fst);cases gp k e.1 with
  |true=>exact List.sublist_cons_self _ _
  |false=>exact(q50 k S).cons₂ _
theorem q5e(k:ByteArray){S:Mp}(h:qmb S):qmb (qem .str k S):=List.Nodup.sublist (q50 k S) h
abbrev Fp:Type:=List Int→List Int→Bool
def qcr(f:Fp)(p:Pr):Fp:=fun x y=>f x y&& !(decide (p.1=x)&&decide (p.2.1=y))
theorem q9i{a b:Int}{S:Mp}{f:Fp}(h:Tab a b S f)(hu:qmb S){p:Pr}(hx:bu a p.1=true)(hy:bu b p.2.1=true):Tab a b (qem .str (rh p.1 p.2.1) S) (qcr f p):=fun x y h1 h2=>by
 rw[q19 _ _ hu];unfold qcr;by_cases e:p.1=x∧p.2.1=y
 ·rw[e.1,e.2,qao,decide_eq_true rfl,decide_eq_true rfl];show false=(f x y&&false);rw[Bool.and_false]
 ·have l1:=c0 hx;have l2:=c0 h1;have hn:gp (rh x y) (rh p.1 p.2.1)=false:=by
   cases hq:gp (rh x y) (rh p.1 p.2.1)with
   |false=>rfl
   |true=>
    obtain⟨e1,e2⟩:=q2e (by omega) (sd h1) (sd hx) (sd h2) (sd hy) (mr.1 hq);exact absurd ⟨e1.symm,e2.symm⟩ e
  have hd:(decide (p.1=x)&&decide (p.2.1=y))=false:=by
   rw[Bool.and_eq_false_iff,decide_eq_false_iff_not,decide_eq_false_iff_not];by_cases e1:p.1=x
   ·exact .inr fun e2=>e ⟨e1,e2⟩
   ·exact .inl e1
  rw[hn,cond_false,h x y h1 h2,hd,Bool.not_false,Bool.and_true]
def LeF(f g:Fp):Prop:=∀x y,f x y=true→g x y=true
theorem q12{old new:az}{f g:Fp}(h:LeF f g){x y:List Int}(hh:m6 old new f x y=true):m6 old new g x y=true:=by
 refine q92 (fun e=>jds hh e) fun t ht hc=> ?_
 obtain⟨h1,h2⟩:=jbr hh ht hc;exact⟨h1,h2.imp (fun k=>⟨k.1,h _ _ k.2⟩) fun⟨u,k1,k2,k3,k4⟩=>⟨u,k1,k2,k3,h _ _ k4⟩⟩
def xd(old new:az)(s:List Pr×Fp)(p:Pr):List Pr×Fp:=bif m6 old new s.2 p.1 p.2.1 then(s.1++[p],s.2)else(s.1,qcr s.2 p)
def iw(old new:az)(f:Fp)(l:List Pr):List Pr×Fp:=l.foldl (xd old new) ([],f)
theorem qyj(old new:az)(f:Fp)(l:List Pr)(p:Pr):iw old new f (l++[p])=xd old new (iw old new f l) p:=by
 unfold iw;rw[List.foldl_append];rfl
def Sim(old new:az)(D:Fp):Prop:=∀x y,D x y=true→m6 old new D x y=true
theorem qxf(l l' :List Pr)(x y:List Int):inB (l++l') x y=(inB l x y||inB l' x y):=by unfold inB;rw[List.any_append]
theorem jdw(p:Pr)(l:List Pr)(x y:List Int):inB (p::l) x y=((decide (p.1=x)&&decide (p.2.1=y))||inB l x y):=rfl
theorem qn7{old new:az}:∀(l:List Pr) (s:List Pr×Fp),LeF s.2 (inB (s.1++l))→
  LeF (l.foldl (xd old new) s).2 (inB (l.foldl (xd old new) s).1)∧LeF (l.foldl (xd old new) s).2 s.2∧(l.foldl (xd old new) s).1.Sublist (s.1++l)∧
  (∀D,Sim old new D→LeF D s.2→LeF D (l.foldl (xd old new) s).2)∧(s.1.length+l.length≤(l.foldl (xd old new) s).1.length→(l.foldl (xd old new) s)=(s.1++l,s.2)∧∀p∈l,m6 old new s.2 p.1 p.2.1=true)
 |[],s,h=>by
  rw[List.foldl_nil];rw[List.append_nil]at h⊢;exact⟨h,fun _ _ h=>h,List.Sublist.refl _,fun _ _ h=>h,fun _=>⟨rfl,fun p hp=>by cases hp⟩⟩
 |p::l,s,h=>by
  rw[List.foldl_cons];cases hh:m6 old new s.2 p.1 p.2.1 with
  |true=>
   have e:xd old new s p=(s.1++[p],s.2):=by unfold xd;rw[hh];rfl
   rw[e];have h' :LeF (s.1++[p],s.2).2 (inB ((s.1++[p],s.2).1++l)):=by
    show LeF s.2 (inB ((s.1++[p])++l));rw[List.append_assoc];exact h
   obtain⟨h1,h2,h3,h4,h5⟩:=qn7 l (s.1++[p],s.2) h';refine⟨h1,h2,?_,h4,fun hl=> ?_⟩
   ·have:((s.1++[p],s.2).1++l)=s.1++p::l:=by show(s.1++[p])++l=_;rw[List.append_assoc];rfl
    rw[←this];exact h3
   ·obtain⟨h6,h7⟩:=h5 (by show(s.1++[p]).length+l.length≤_;rw[List.length_append,List.length_singleton];rw[List.length_cons]at hl;omega);refine⟨by rw[h6];show((s.1++[p])++l,s.2)=_;rw[List.append_assoc];rfl,fun q hq=> ?_⟩;rcases List.mem_cons.1 hq with rfl|hq
    ·exact hh
    ·exact h7 q hq
  |false=>
   have e:xd old new s p=(s.1,qcr s.2 p):=by unfold xd;rw[hh];rfl
   rw[e];have hle:LeF (qcr s.2 p) s.2:=fun x y hm=>by
    unfold qcr at hm;rw[Bool.and_eq_true]at hm;exact hm.1
   have h' :LeF (s.1,qcr s.2 p).2 (inB ((s.1,qcr s.2 p).1++l)):=fun x y hm=>by
    have hm:qcr s.2 p x y=true:=hm;have h1:=h x y (hle x y hm);unfold qcr at hm;rw[Bool.and_eq_true,Bool.not_eq_true']at hm;show inB (s.1++l) x y=true;rw[qxf,jdw,hm.2,Bool.false_or]at h1;rw[qxf];exact h1
   obtain⟨h1,h2,h3,h4,h5⟩:=qn7 l (s.1,qcr s.2 p) h';have hlen:=h3.length_le;refine⟨h1,fun x y hm=>hle x y (h2 x y hm),h3.trans ((List.sublist_cons_self p l).append_left _),fun D hD hle' =>h4 D hD fun x y hd=> ?_,fun hl=> ?_⟩
   ·show qcr s.2 p x y=true;unfold qcr;rw[hle' x y hd,Bool.true_and];cases hq:(decide (p.1=x)&&decide (p.2.1=y))with
    |false=>rfl
    |true=>
     rw[Bool.and_eq_true,decide_eq_true_iff,decide_eq_true_iff]at hq;rw[hq.1,hq.2,q12 hle' (hD x y hd)]at hh;cases hh
   ·rw[List.length_append]at hlen;rw[List.length_cons]at hl;have:(s.1,qcr s.2 p).1.length=s.1.length:=rfl;omega
section
variable {old new : az} (ho : Small old) (hn : Small new) (vo : bv old = true) (vn : bv new = true)
include ho hn vo vn
theorem q6x{p:Pr}(h1:bu old.1 p.1=true)(h2:bu new.1 p.2.1=true):jr p.1 p.2.1=some (rh p.1 p.2.1):=by
 obtain⟨p1,p2,_⟩:=bi vo ho;obtain⟨q1,q2,_⟩:=bi vn hn;have l1:=c0 h1;have l2:=c0 h2;exact qwl _ _ (by omega) (by omega)
theorem qly{S:Mp}{f:Fp}(hS:Tab old.1 new.1 S f){p:Pr}(h1:bu old.1 p.1=true)(h2:bu new.1 p.2.1=true):
  jf p old new S=some (bif m6 old new f p.1 p.2.1 then(false,S)else(true,qem .str (rh p.1 p.2.1) S)):=by
 unfold jf;rw[ao (by omega) (by omega),ao (by omega) (by omega),jbs ho hn vo vn hS h1 h2,ah];cases m6 old new f p.1 p.2.1 with
 |true=>rfl
 |false=>
  dsimp only[cond_false];rw[q6x ho hn vo vn h1 h2,ah]
theorem q7l{l:List Pr}(hp:PM old new l)(hl:l.length≤1000000){S:Mp}{f:Fp}(hS:Tab old.1 new.1 S f)(hu:qmb S):
  ∃S',cx old new l S=some ((iw old new f l).1,S')∧Tab old.1 new.1 S' (iw old new f l).2∧qmb S' :=by
 have hall:∀q:List Pr,(∀p∈q,m6 old new f p.1 p.2.1=true)→iw old new f q=(q,f):=fun q hq=>by
  have hgen:∀(q k:List Pr),(∀p∈q,m6 old new f p.1 p.2.1=true)→q.foldl (xd old new) (k,f)=(k++q,f):=by
   intro q
   induction q with
   |nil=>intro k _;rw[List.foldl_nil,List.append_nil]
   |cons p q ih=>
    intro k hq;rw[List.foldl_cons];have e:xd old new (k,f) p=(k++[p],f):=by
     unfold xd;rw[hq p List.mem_cons_self];rfl
    rw[e,ih _ fun p' hp' =>hq p' (List.mem_cons_of_mem _ hp'),List.append_assoc];rfl
  exact hgen q [] hq
 unfold cx gv;cases hf:kz (fun p:Pr=> !m6 old new f p.1 p.2.1) l with
 |none=>
  have hh:∀p∈l,m6 old new f p.1 p.2.1=true:=fun p hp=>by
   have:=zw hf p hp;simpa using this
  have hL:ge l old new (l.length:Int) (0,S)=some (.inl S):=by
   refine nt (fun i=>((i:Int),S)) l.length (dl (by omega)) _ (fun i hi=> ?_) ?_ _ rfl
   ·have hm:=aw ab.z hi;have hg:=qly ho hn vo vn hS (hp _ hm).1 (hp _ hm).2;rw[hh _ hm,cond_true]at hg;unfold ca;rw[cj (by omega),ao (by omega) (by omega),ao (by omega) (by omega)];simp only[Int.toNat_natCast];rw[hg,ah];dsimp only[cond_false];rw[ci (by omega) (by omega),aj]
   ·unfold ca;rw[df (by omega)]
  rw[hL,ah,lq,ah,hall l hh];exact⟨S,rfl,hS,hu⟩
 |some k=>
  obtain⟨k1,k2,k3⟩:=zx ab.z hf;have hk2:m6 old new f (l.getD k ab.z).1 (l.getD k ab.z).2.1=false:=by simpa using k2
  have hmk:=hp _ (aw ab.z k1);have hL:ge l old new (l.length:Int) (0,S)=some (.inr ((k:Int),qem .str (rh (l.getD k ab.z).1 (l.getD k ab.z).2.1) S)):=by
   refine qhq (fun i:Nat=>((i:Int),S)) k (dl (by omega)) (.ret ((k:Int),qem .str (rh (l.getD k ab.z).1 (l.getD k ab.z).2.1) S)) _ rfl (fun i hi=> ?_) ?_
   ·have hm:=aw ab.z (show i<l.length by omega);have hg:=qly ho hn vo vn hS (hp _ hm).1 (hp _ hm).2;have hk:=k3 i hi;rw[Bool.not_eq_false']at hk;rw[hk,cond_true]at hg;unfold ca;rw[cj (by omega),ao (by omega) (by omega),ao (by omega) (by omega)];simp only[Int.toNat_natCast];rw[hg,ah];dsimp only[cond_false];rw[ci (by omega) (by omega),aj];rfl
   ·have hg:=qly ho hn vo vn hS hmk.1 hmk.2;rw[hk2,cond_false]at hg;unfold ca;rw[cj (by omega),ao (by omega) (by omega),ao (by omega) (by omega)];simp only[Int.toNat_natCast];rw[hg,ah];rfl
  have hpre:iw old new f (l.take (k+1))=(l.take k,qcr f (l.getD k ab.z)):=by
   rw[bn l k ab.z k1,qyj,hall (l.take k) fun p hp=>by
    obtain⟨j,hj,rfl⟩:=je ab.z hp;have hj' :j<k:=by simp at hj;omega
    have e2:(l.take k).getD j ab.z=l.getD j ab.z:=by simp[List.getD_eq_getElem?_getD,List.getElem?_take,hj']
    rw[e2];have:=k3 j hj';rwa[Bool.not_eq_false']at this]
   unfold xd;rw[hk2];rfl
  have htk:(l.take k).length=k:=by rw[List.length_take];omega
  have hloop:∃o,kl old new ((k:Int),(k:Int)+1,l,qem .str (rh (l.getD k ab.z).1 (l.getD k ab.z).2.1) S)=some o∧∃(i:Nat) (s:List Pr) (S' :Mp),o= .inl ((i:Int),s,S')∧s.length=l.length∧i≤l.length∧s.take i=(iw old new f l).1∧Tab old.1 new.1 S' (iw old new f l).2∧qmb S' :=by
   refine ij (fun(st:Int×Int×List Pr×Mp)=>∃i j:Nat,st.1=(i:Int)∧st.2.1=(j:Int)∧i<j∧j≤l.length∧st.2.2.1.length=l.length∧st.2.2.1.take i=(iw old new f (l.take j)).1∧(∀m,j≤m→st.2.2.1.getD m ab.z=l.getD m ab.z)∧Tab old.1 new.1 st.2.2.2 (iw old new f (l.take j)).2∧qmb st.2.2.2) (fun st=>((l.length:Int)-st.2.1).toNat)
    (fun(o:(Int×List Pr×Mp)⊕(List Pr×Mp))=>∃(i:Nat) (s:List Pr) (S' :Mp),o= .inl ((i:Int),s,S')∧s.length=l.length∧i≤l.length∧s.take i=(iw old new f l).1∧Tab old.1 new.1 S' (iw old new f l).2∧qmb S') _ ⟨k,k+1,rfl,aj k,by omega,by omega,rfl,by rw[hpre],fun _ _=>rfl,by rw[hpre];exact q9i hS hu hmk.1 hmk.2,q5e _ hu⟩ (by show((l.length:Int)-((k:Int)+1)).toNat<many;unfold many;omega) ?_
   rintro⟨_,_,s,T⟩ ⟨i,j,rfl,rfl,hij,hj,hsl,hst,hrest,hT,hTu⟩;have hsl:s.length=l.length:=hsl;have hst:s.take i=(iw old new f (l.take j)).1:=hst;have hrest:∀m,j≤m→s.getD m ab.z=l.getD m ab.z:=hrest;have hT:Tab old.1 new.1 T (iw old new f (l.take j)).2:=hT;have hTu:qmb T:=hTu;by_cases hlt:j<l.length
   ·have hsj:=hrest j (Nat.le_refl j);have hm:=hp _ (aw ab.z hlt);have hg:=qly ho hn vo vn hT hm.1 hm.2;have hμ:((l.length:Int)-((j+1:Nat):Int)).toNat<((l.length:Int)-(j:Int)).toNat:=by omega
    have hps:iw old new f (l.take (j+1))=xd old new (iw old new f (l.take j)) (l.getD j ab.z):=by rw[bn l j ab.z hlt,qyj]
    cases hh:m6 old new (iw old new f (l.take j)).2 (l.getD j ab.z).1 (l.getD j ab.z).2.1 with
    |false=>
     rw[hh,cond_false]at hg;have hp1:iw old new f (l.take (j+1))=((iw old new f (l.take j)).1,qcr (iw old new f (l.take j)).2 (l.getD j ab.z)):=by
      rw[hps];unfold xd;rw[hh];rfl
     refine⟨.next ((i:Int),((j+1:Nat):Int),s,qem .str (rh (l.getD j ab.z).1 (l.getD j ab.z).2.1) T),?_,⟨i,j+1,rfl,rfl,by omega,by omega,hsl,by rw[hp1];exact hst,fun m hm=>hrest m (by omega),by rw[hp1];exact q9i hT hTu hm.1 hm.2,q5e _ hTu⟩,hμ⟩;unfold cn;dsimp only;rw[cj (by omega),ao (by omega) (by omega),ao (by omega) (by omega)];simp only[Int.toNat_natCast,hsj];rw[hg,ah];dsimp only;rw[Bool.not_true,cond_false,ci (by omega) (by omega),aj]
    |true=>
     rw[hh,cond_true]at hg;have hp1:iw old new f (l.take (j+1))=((iw old new f (l.take j)).1++[l.getD j ab.z],(iw old new f (l.take j)).2):=by
      rw[hps];unfold xd;rw[hh];rfl
     refine⟨.next (((i+1:Nat):Int),((j+1:Nat):Int),s.set i (l.getD j ab.z),T),?_,⟨i+1,j+1,rfl,rfl,by omega,by omega,by show(s.set i _).length=_;rw[List.length_set];exact hsl,?_,fun m hm=> ?_,by rw[hp1];exact hT,hTu⟩,hμ⟩
     ·unfold cn;dsimp only;rw[cj (by omega),ao (by omega) (by omega),ao (by omega) (by omega)];simp only[Int.toNat_natCast,hsj];rw[hg,ah];dsimp only;rw[Bool.not_false,cond_true,ao (by omega) (by omega),ao (by omega) (by omega),ci (by omega) (by omega),ci (by omega) (by omega),aj,aj]
     ·show(s.set i (l.getD j ab.z)).take (i+1)=_;rw[hp1,bn _ i ab.z (by rw[List.length_set];omega),List.take_set_of_le (Nat.le_refl i),hst];have e1:(s.set i (l.getD j ab.z)).getD i ab.z=l.getD j ab.z:=by
       rw[List.getD_eq_getElem?_getD,List.getElem?_set_self (by omega)];rfl
      rw[e1]
     ·show(s.set i (l.getD j ab.z)).getD m ab.z=_;rw[←hrest m (by omega),List.getD_eq_getElem?_getD,List.getElem?_set_ne (by omega),←List.getD_eq_getElem?_getD]
   ·obtain rfl:j=l.length:=by omega
    rw[List.take_length]at hst hT;refine⟨.done ((i:Int),s,T),?_,i,s,T,rfl,hsl,by omega,hst,hT,hTu⟩;unfold cn;dsimp only;rw[df (by omega)]
  obtain⟨_,hlo,i,s,S',rfl,hsl,hi,hst,hT,hTu⟩:=hloop;have hne:decide ((k:Int)= -1)=false:=decide_eq_false (by omega);refine⟨S',?_,hT,hTu⟩;rw[hL,ah,qj9,ah];dsimp only;rw[hne,cond_false,ci (by omega) (by omega),hlo,ah,lq];simp only[Int.toNat_natCast,List.drop_zero,Int.toNat_zero,Nat.sub_zero];have hlen:(m5 s i (s.length-i) (List.replicate (s.length-i) (ab.z:ab))).length=s.length:=by
   unfold m5;simp;omega
  rw[qpi (by omega) (by omega) (by omega),qpi (by omega) (by omega) (by rw[hlen];omega)];have htake:(m5 s i (s.length-i) (List.replicate (s.length-i) (ab.z:ab))).take i=s.take i:=by
   unfold m5;have hl:(s.take i).length=i:=by rw[List.length_take];omega
   rw[List.take_append_of_le_length (by omega),List.take_take,Nat.min_self]
  rw[htake,hst]
end
end Go.Proofs.Ytdhfhpdadbopkaa
