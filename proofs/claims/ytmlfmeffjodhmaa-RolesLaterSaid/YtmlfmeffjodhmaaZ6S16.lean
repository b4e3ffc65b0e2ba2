/-
  Roles: who may do an activity after a history may do it after any beginning of it; fewer duties and more delegations permit no less.
-/
import Derived.Test.YtmlfmeffjodhmaaZ6S3
set_option linter.all false
namespace Go.Proofs.Ytmlfmeffjodhmaa
open Go.K Go.M
theorem qvt{o:jo}(h:su o=some true):o.2.1.length≤20:=by
 refine Classical.byContradiction fun hc=> ?_
 have c2:¬(o.2.1.length:Int)≤20:=by omega
 have:su o=some false:=by
  unfold su;by_cases c1:(o.1.length:Int)≤12
  ·simp(disch:=omega)only[rs]
  ·by_cases c4:40<(o.1.length:Int)
   ·by_cases c5:(o.1.length:Int)<45
    ·simp(disch:=omega)only[rs]
    ·simp(disch:=omega)only[rs]
   ·simp(disch:=omega)only[rs]
 rw[this]at h;cases h
theorem qti(l:List ak)(h:l.length≤1000):cp l=some l:=by
 unfold cp dl;simp(disch:=omega)only[List.nil_append,rs]
theorem qth(l:List ab)(h:l.length≤1000):be l=some l:=by
 unfold be br;simp(disch:=omega)only[List.nil_append,rs]
theorem qtg{c N:Int}(hc:0≤c)(hN:0<N):∃k:Nat,Int.tmod c N=(k:Int)∧(k:Int)<N:=by
 obtain⟨k,hk⟩:=Int.eq_ofNat_of_zero_le (Int.tmod_nonneg N hc);exact⟨k,hk,by rw[←hk];exact Int.tmod_lt_of_pos c hN⟩
def qaj(o:jo)(person act role:ByteArray)(time:Int)(hs:List aq):Bool:=na o&&ci act&&ci role&&qak time&& !decide (pix o person<0)&&decide (va o hs=0)
theorem qri(o:jo)(hs:List aq):va o hs=5∨va o hs=8∨va o hs=0:=by
 unfold va;split
 ·exact .inl rfl
 ·split
  ·exact .inr (.inl rfl)
  ·exact .inr (.inr rfl)
theorem qbp(o:jo)(person act role:ByteArray)(time:Int)(hs:List aq):(qaj o person act role time hs=true∧qos o person act role time hs=(xx o person act role time hs,0))∨(qaj o person act role time hs=false∧(qos o person act role time hs).1=false∧¬(qos o person act role time hs).2=0):=by
 unfold qaj qos;have hp:=qri o hs;cases na o<;>cases ci act<;>cases ci role<;>cases qak time<;>cases decide (pix o person<0)<;>first
  |exact .inr ⟨rfl,rfl,fun(h:(1:Int)=0)=>by cases h⟩
  |exact .inr ⟨rfl,rfl,fun(h:(2:Int)=0)=>by cases h⟩
  |exact .inr ⟨rfl,rfl,fun(h:(10:Int)=0)=>by cases h⟩
  |skip
 rcases hp with hp|hp|hp<;>rw[hp]
 ·exact .inr ⟨rfl,rfl,fun(h:(5:Int)=0)=>by cases h⟩
 ·exact .inr ⟨rfl,rfl,fun(h:(8:Int)=0)=>by cases h⟩
 ·exact .inl ⟨rfl,rfl⟩
theorem xp{o:jo}{person act role:ByteArray}{time:Int}{hs:List aq}:qaj o person act role time hs=true↔na o=true∧ci act=true∧ci role=true∧qak time=true∧¬pix o person<0∧hs.length≤1000∧hs.any (qfx o)=false:=by
 have hp:va o hs=0↔hs.length≤1000∧hs.any (qfx o)=false:=by
  unfold va;by_cases h1:1000<hs.length
  ·rw[if_pos h1];exact⟨fun h=>(by cases h),fun h=>by omega⟩
  ·rw[if_neg h1];cases h2:hs.any (qfx o)with
   |true=>rw[if_pos rfl];exact⟨fun h=>(by cases h),fun h=>by cases h.2⟩
   |false=>exact⟨fun _=>⟨by omega,rfl⟩,fun _=>rfl⟩
 unfold qaj;rw[Bool.and_eq_true,Bool.and_eq_true,Bool.and_eq_true,Bool.and_eq_true,Bool.and_eq_true,Bool.not_eq_true',decide_eq_false_iff_not,decide_eq_true_iff,hp];simp only[and_assoc]
theorem qbu{o:jo}{person act role:ByteArray}{time:Int}{hs:List aq}:xx o person act role time hs=true↔qmx o person role time=true∧∀d∈o.2.2.1,∀t∈hs,qdd d act person t=false:=by
 unfold xx qxk;rw[Bool.and_eq_true,qv0,Bool.not_eq_true',List.any_eq_false];refine and_congr_right fun _=>⟨fun h d hd t ht=> ?_,fun h d hd=> ?_⟩
 ·have:=h d hd;rw[Bool.not_eq_true,List.any_eq_false]at this;have:=this t ht;simpa using this
 ·rw[Bool.not_eq_true,List.any_eq_false];intro t ht;rw[h d hd t ht];simp
theorem qud{o:jo}{person act role:ByteArray}{time:Int}{hs:List aq}(k:Nat)(hf:qaj o person act role time hs=true):qaj o person act role time (hs.take k)=true∧(xx o person act role time hs=true→xx o person act role time (hs.take k)=true):=by
 obtain⟨h1,h2,h3,h4,h5,h6,h7⟩:=xp.1 hf;have hsub:∀t∈hs.take k,t∈hs:=fun t ht=>List.mem_of_mem_take ht
 refine⟨xp.2 ⟨h1,h2,h3,h4,h5,by rw[List.length_take];omega,List.any_eq_false.2 fun t ht=>List.any_eq_false.1 h7 t (hsub t ht)⟩,fun hm=> ?_⟩;obtain⟨g1,g2⟩:=qbu.1 hm;exact qbu.2 ⟨g1,fun d hd t ht=>g2 d hd t (hsub t ht)⟩
theorem quc{o:jo}{person act role:ByteArray}{time:Int}{hs:List aq}{U:List ak}(hU:∀d∈U,d∈o.2.2.1)(hf:qaj o person act role time hs=true):qaj (o.1,o.2.1,U,()) person act role time hs=true∧(xx o person act role time hs=true→xx (o.1,o.2.1,U,()) person act role time hs=true):=by
 obtain⟨h1,h2,h3,h4,h5,h6,h7⟩:=xp.1 hf;have hv:na (o.1,o.2.1,U,())=true:=by
  unfold na at h1⊢;rw[Bool.and_eq_true,Bool.and_eq_true]at h1⊢;refine⟨h1.1,?_⟩;have:=h1.2;rw[Bool.not_eq_true',List.any_eq_false]at this⊢;exact fun d hd=>this d (hU d hd)
 refine⟨xp.2 ⟨hv,h2,h3,h4,h5,h6,h7⟩,fun hm=> ?_⟩;obtain⟨g1,g2⟩:=qbu.1 hm;exact qbu.2 ⟨g1,fun d hd t ht=>g2 d (hU d hd) t ht⟩
theorem quf{o:jo}{person act role:ByteArray}{time:Int}{hs:List aq}{D:List ab}(hD:∀d∈o.2.1,d∈D)(hv:na (o.1,D,o.2.2.1,())=true)(hf:qaj o person act role time hs=true):qaj (o.1,D,o.2.2.1,()) person act role time hs=true∧(xx o person act role time hs=true→xx (o.1,D,o.2.2.1,()) person act role time hs=true):=by
 obtain⟨h1,h2,h3,h4,h5,h6,h7⟩:=xp.1 hf;refine⟨xp.2 ⟨hv,h2,h3,h4,h5,h6,h7⟩,fun hm=> ?_⟩;obtain⟨g1,g2⟩:=qbu.1 hm;refine qbu.2 ⟨?_,g2⟩;unfold qmx at g1⊢;rw[Bool.or_eq_true,List.any_eq_true]at g1⊢;rcases g1 with g1|⟨d,hd,g1⟩
 ·exact .inl g1
 ·exact .inr ⟨d,hD d hd,g1⟩
theorem qh2(o:jo)(person act role:ByteArray)(time:Int)(hs:List aq)(cut:Int)(more:ab)(hc:0≤cut∧cut≤255):ss o person act role time hs cut more=some true:=by
 unfold ss;rw[qqk,bj,Bool.not_true,cond_false];obtain⟨b1,e1,f1⟩:=q0y o;rw[e1,bj];cases b1 with
 |false=>rfl
 |true=>
 have hF:=f1 rfl;have hD:=qvt e1;rw[Bool.not_true,cond_false,qqh,bj];cases qg6 [person,act,role,more.1,more.2.1,more.2.2.1]with
 |false=>rfl
 |true=>
 obtain⟨b2,e2,f2⟩:=qw0 hs;rw[Bool.not_true,cond_false,e2,bj];cases b2 with
 |false=>rfl
 |true=>
 have hl:=f2 rfl;rw[Bool.not_true,cond_false,(qik hF person act role time hs hl).1,bj];rcases qbp o person act role time hs with⟨hf,hA⟩|⟨hf,hA1,hA2⟩
 ·obtain⟨k,hk,hkl⟩:=qtg hc.1 (show(0:Int)<(hs.length:Int)+1 by omega);obtain⟨p1,p2⟩:=qud k hf;have hA' :qos o person act role time (hs.take k)=(xx o person act role time (hs.take k),0):=by
   rcases qbp o person act role time (hs.take k)with⟨_,h⟩|⟨h,_⟩
   ·exact h
   ·rw[p1]at h;cases h
  rw[hA];dsimp only;rw[decide_eq_true rfl,Bool.not_true,cond_false,qd8 (by omega) (by omega),qd8 (by omega) (by omega),vz (by rw[decide_eq_false (by omega)];rfl),hk,qsj (by omega) (by omega) (by omega),Int.toNat_natCast,(qik hF person act role time (hs.take k) (by rw[List.length_take];omega)).1,bj,hA'];dsimp only;rw[decide_eq_true rfl,Bool.not_true,cond_false];have hT1:∀ok:Bool,(ok=true→xx o person act role time hs=true)→qw person act role time hs ok o.1 (o.2.1++[(more.1,more.2.1,more.2.2.1,(more.2.2.2.1.1,more.2.2.2.1.2.1,()),())]) o.2.2.1=some (.inr true):=fun ok hok=>by
   have hFw:Few (o.1,o.2.1++[(more.1,more.2.1,more.2.2.1,(more.2.2.2.1.1,more.2.2.2.1.2.1,()),())],o.2.2.1,()):=⟨hF.people,by show(o.2.1++[_]).length≤100;rw[List.length_append,List.length_singleton];omega,hF.duty,hF.roles⟩;unfold qw p5;rw[qd1 hFw,bj];cases hv:na (o.1,o.2.1++[(more.1,more.2.1,more.2.2.1,(more.2.2.2.1.1,more.2.2.2.1.2.1,()),())],o.2.2.1,())with
   |false=>rfl
   |true=>
    obtain⟨w1,w2⟩:=quf (D:=o.2.1++[(more.1,more.2.1,more.2.2.1,(more.2.2.2.1.1,more.2.2.2.1.2.1,()),())]) (fun d hd=>List.mem_append_left _ hd) hv hf;rw[Bool.not_true,cond_false,(qik hFw person act role time hs hl).1,bj];rcases qbp (o.1,o.2.1++[(more.1,more.2.1,more.2.2.1,(more.2.2.2.1.1,more.2.2.2.1.2.1,()),())],o.2.2.1,()) person act role time hs with⟨_,h⟩|⟨h,_⟩
    ·rw[h];dsimp only;rw[decide_eq_true rfl,cond_true];cases ok with
     |false=>rfl
     |true=>rw[w2 (hok rfl)];rfl
    ·rw[w1]at h;cases h
  have hT2:∀ok:Bool,(ok=true→xx o person act role time hs=true)→m5 person act role time hs ok o.1 o.2.1 o.2.2.1 more.1 more.2.1 more.2.2.1 more.2.2.2.1.1 more.2.2.2.1.2.1=some (.inr true):=fun ok hok=>by
   unfold m5 p6;rw[qth _ (by omega),bj,qo8 (by omega) (by omega),hT1 ok hok];rfl
  have hT0:∀(ok:Bool) (U:List ak),(ok=true→xx o person act role time hs=true)→(∀d∈U,d∈o.2.2.1)→U.length≤100→qv person act role time hs ok o.1 o.2.1 o.2.2.1 more.1 more.2.1 more.2.2.1 more.2.2.2.1.1 more.2.2.2.1.2.1 o.1 o.2.1 U=some (.inl ()):=fun ok U hok hU hUl=>by
   have hFu:Few (o.1,o.2.1,U,()):=⟨hF.people,hF.dele,hUl,hF.roles⟩;obtain⟨w1,w2⟩:=quc hU hf;unfold qv p4;rw[(qik hFu person act role time hs hl).1,bj];rcases qbp (o.1,o.2.1,U,()) person act role time hs with⟨_,h⟩|⟨h,_⟩
   ·rw[h];dsimp only;rw[decide_eq_true rfl,Bool.not_true,cond_false];cases ok with
    |false=>rfl
    |true=>rw[w2 (hok rfl)];rfl
   ·rw[w1]at h;cases h
  have hT3:∀ok:Bool,(ok=true→xx o person act role time hs=true)→m6 person act role time hs cut ok o.1 o.2.1 o.2.2.1 more.1 more.2.1 more.2.2.1 more.2.2.2.1.1 more.2.2.2.1.2.1=some (.inr true):=fun ok hok=>by
   have hdl:=hF.duty;unfold m6 p7;by_cases c1:(0:Int)<(o.2.2.1.length:Int)
   ·obtain⟨j,hj,hjl⟩:=qtg hc.1 c1;have hdel:gu (j:Int) ((j:Int)+1) o.2.2.1=some (o.2.2.1.take j++o.2.2.1.drop (j+1)):=by
     show qpb (j:Int) ((j:Int)+1) o.2.2.1=_;unfold qpb;rw[if_pos ⟨by omega,by omega,by omega⟩,Int.toNat_natCast,show((j:Int)+1).toNat=j+1 by omega]
    rw[qu8 c1,qd8 (by omega) (by omega),vz (by rw[decide_eq_false (by omega)];rfl),qti _ (by omega),bj,hj,qd8 (by omega) (by omega),hdel,bj,hT0 ok _ hok (fun d hd=>by
     rcases List.mem_append.1 hd with hd|hd
     ·exact List.mem_of_mem_take hd
     ·exact List.mem_of_mem_drop hd) (by rw[List.length_append,List.length_take,List.length_drop];omega),bj,qv7,hT2 ok hok]
    rfl
   ·rw[qsg (by omega),hT2 ok hok];rfl
  cases hm:xx o person act role time hs with
  |true=>
   rw[cond_true,p2 hm,Bool.not_true,cond_false,hT3 true (fun _=>hm)];rfl
  |false=>
   rw[cond_false,hT3 false (fun h=>by cases h)];rfl
 ·rw[decide_eq_false hA2,Bool.not_false,cond_true,hA1];rfl
end Go.Proofs.Ytmlfmeffjodhmaa
