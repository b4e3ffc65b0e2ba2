/-
  Siphon: firing and runs; the law SiphonStays.
-/
import Derived.Test.YtokeielgplbdeaaZ8U2
set_option linter.all false
namespace Go.Proofs.Ytokeielgplbdeaa
open Go.K Go.M
def qm4(k:Int):Bool:=decide (k<0)||decide (100<k)
def c8(N:Int)(m:List Int):Bool:=decide ((m.length:Int)=N)&& !m.any qm4
theorem ja{N:Int}{m:List Int}:c8 N m=true↔(m.length:Int)=N∧∀i,i<m.length→0≤m.getD i 0∧m.getD i 0≤100:=by
 unfold c8;rw[Bool.and_eq_true,decide_eq_true_eq,Bool.not_eq_true',List.any_eq_false];constructor
 ·rintro⟨h1,h2⟩;refine⟨h1,fun i hi=> ?_⟩;have:=h2 _ (aw 0 hi);unfold qm4 at this;simp only[Bool.or_eq_true,decide_eq_true_eq,not_or]at this;omega
 ·rintro⟨h1,h2⟩;refine⟨h1,fun x hx=> ?_⟩;obtain⟨i,hi,rfl⟩:=ig 0 hx;have:=h2 i hi;unfold qm4;simp only[Bool.or_eq_true,decide_eq_true_eq,not_or];omega
theorem xa(n:cj)(m:List Int)(hm:m.length≤1000000):qz n m=some (c8 n.1 m):=by
 have hL:qfx m 0=some (bif m.any qm4 then .inr false else .inl ()):=by
  refine zm m 0 qm4 false (by omega) (fun i hi=> ?_) ?_
  ·unfold qm4;simp(disch:=omega)only[v6,rs];rw[al];cases decide (m.getD i 0<0)<;>cases decide (100<m.getD i 0)<;>rfl
  ·simp(disch:=omega)only[v6,rs]
 unfold qz c8;rw[hL];cases decide ((m.length:Int)=n.1)<;>cases m.any qm4<;>rfl
theorem qfl{n:cj}(h:Small n)(m:List Int)(hm:m.length≤1000000):oq n m=some (b9 n&&c8 n.1 m):=by
 have hL:ng m (m.length:Int) 0=some (qxp (fun i=>(i:Int)) (k9 qm4 m)):=by
  refine su m 0 qm4 (fun i=>(i:Int)) (by omega) (fun i hi=> ?_) ?_
  ·unfold qm4;simp(disch:=omega)only[em,yc,rs];rw[al];cases decide (m.getD i 0<0)<;>cases decide (100<m.getD i 0)<;>rfl
  ·simp(disch:=omega)only[em,rs]
 have hC:ek m=some (m.any qm4):=by
  unfold ek j9;rw[hL,i5,qei,i5,qlp]
 unfold oq c8;rw[qb9 h,hC];cases b9 n<;>cases decide ((m.length:Int)=n.1)<;>cases m.any qm4<;>rfl
theorem qkv{n:cj}(hv:b9 n=true){t:ag}(ht:t∈n.2.1):za n.1 t.2.1=true∧za n.1 t.2.2.1=true:=by
 unfold b9 at hv;simp only[Bool.and_eq_true,Bool.not_eq_true']at hv;have:=List.any_eq_false.1 hv.1.1.2 t ht;unfold qk5 at this;simp only[Bool.or_eq_true,Bool.not_eq_true',not_or,Bool.not_eq_false]at this;exact⟨this.1.2,this.2⟩
def fl(c:Int)(l:List Int)(m:List Int):List Int:=l.foldl (fun m p=>m.set p.toNat (m.getD p.toNat 0+c)) m
theorem pe(c:Int):∀(l:List Int) (m:List Int),(fl c l m).length=m.length
 |[],_=>rfl
 |p::l,m=>(pe c l _).trans (List.length_set ..)
theorem qd3(c:Int):∀(l:List Int) (m:List Int),l.Pairwise (·<·)→(∀p∈l,0≤p∧p<m.length)→∀q:Nat,(fl c l m).getD q 0=m.getD q 0+(if(q:Int)∈l then c else 0)
 |[],m,_,_,q=>by simp[fl]
 |p::l,m,hs,hb,q=>by
  obtain⟨h1,h2⟩:=List.pairwise_cons.1 hs;have hp:=hb p List.mem_cons_self;have ih:=qd3 c l (m.set p.toNat (m.getD p.toNat 0+c)) h2 (fun x hx=>by rw[List.length_set];exact hb x (List.mem_cons_of_mem _ hx)) q;show(fl c l (m.set p.toNat (m.getD p.toNat 0+c))).getD q 0=_;rw[ih];by_cases hq:(q:Int)=p
  ·have e:p.toNat=q:=by omega
   have hno:(q:Int)∉l:=fun hc=>by have:=h1 _ hc;omega
   rw[if_neg hno,if_pos (by rw[hq];exact List.mem_cons_self),e,List.getD_eq_getElem?_getD,List.getElem?_set_self (by omega)];simp
  ·have e:p.toNat≠q:=by omega
   have hiff:(q:Int)∈p::l↔(q:Int)∈l:=⟨fun hc=>(List.mem_cons.1 hc).resolve_left hq,List.mem_cons_of_mem _⟩;rw[List.getD_eq_getElem?_getD,List.getElem?_set_ne e,←List.getD_eq_getElem?_getD];by_cases hl:(q:Int)∈l
   ·rw[if_pos hl,if_pos (hiff.2 hl)]
   ·rw[if_neg hl,if_neg fun h=>hl (hiff.1 h)]
def jm(t:ag)(m:List Int):Bool:= !t.2.1.any fun p=>decide (m.getD p.toNat 0=0)
theorem qrw(t:ag)(m:List Int)(ht:t.2.1.length≤1000000)(hb:∀p∈t.2.1,0≤p∧p<m.length):qo t m=some (jm t m):=by
 have hL:ni t.2.1 m (t.2.1.length:Int) 0=some (qxp (fun i=>(i:Int)) (k9 (fun p=>decide (m.getD p.toNat 0=0)) t.2.1)):=by
  refine su t.2.1 0 (fun p=>decide (m.getD p.toNat 0=0)) (fun i=>(i:Int)) (by omega) (fun i hi=> ?_) ?_
  ·have:=hb _ (aw 0 hi);simp(disch:=omega)only[eo,yb,rs];rw[al];cases decide (m.getD (t.2.1.getD i 0).toNat 0=0)<;>rfl
  ·simp(disch:=omega)only[eo,rs]
 unfold qo iv kb jm;rw[hL,i5,qei,i5,i5,qlp]
theorem q7e(s:ByteArray)(l o:List Int)(m:List Int)(hl:l.length≤1000000)(hs:l.Pairwise (·<·))(hb:∀p∈l,0≤p∧p<m.length)(hm:∀i,i<m.length→-1000≤m.getD i 0∧m.getD i 0≤1000):
  qmh l (l.length:Int) s l o (0,m)=some (.inl (fl (-1) l m)):=by
 have e:fl (-1) l m=fl (-1) (l.take l.length) m:=by rw[List.take_length]
 rw[e];refine jy (fun i:Nat=>((i:Int),fl (-1) (l.take i) m)) l.length (bm (by omega)) _ (fun i hi=> ?_) ?_ _ rfl
 ·have hp:=hb _ (aw 0 hi);have hlen:=pe (-1) (l.take i) m;have hat:=qd3 (-1) (l.take i) m (hs.sublist (List.take_sublist _ _)) (fun p hp=>hb p (List.mem_of_mem_take hp)) (l.getD i 0).toNat;have hmv:=hm (l.getD i 0).toNat (by omega);have hbd: -2000≤(fl (-1) (l.take i) m).getD (l.getD i 0).toNat 0∧(fl (-1) (l.take i) m).getD (l.getD i 0).toNat 0≤2000:=by
   rw[hat];split<;>omega
  have e3:fl (-1) (l.take (i+1)) m=(fl (-1) (l.take i) m).set (l.getD i 0).toNat ((fl (-1) (l.take i) m).getD (l.getD i 0).toNat 0-1):=by
   rw[cr l i 0 hi];unfold fl;rw[List.foldl_append];rfl
  rw[e3];simp(disch:=omega)only[wx,rs];rw[al]
 ·simp(disch:=omega)only[wx,rs]
theorem q7f(l:List Int)(m:List Int)(hl:l.length≤1000000)(hs:l.Pairwise (·<·))(hb:∀p∈l,0≤p∧p<m.length)(hm:∀i,i<m.length→-1000≤m.getD i 0∧m.getD i 0≤1000):
  qmi l (l.length:Int) (0,m)=some (.inl (fl 1 l m)):=by
 have e:fl 1 l m=fl 1 (l.take l.length) m:=by rw[List.take_length]
 rw[e];refine jy (fun i:Nat=>((i:Int),fl 1 (l.take i) m)) l.length (bm (by omega)) _ (fun i hi=> ?_) ?_ _ rfl
 ·have hp:=hb _ (aw 0 hi);have hlen:=pe 1 (l.take i) m;have hat:=qd3 1 (l.take i) m (hs.sublist (List.take_sublist _ _)) (fun p hp=>hb p (List.mem_of_mem_take hp)) (l.getD i 0).toNat;have hmv:=hm (l.getD i 0).toNat (by omega);have hbd: -2000≤(fl 1 (l.take i) m).getD (l.getD i 0).toNat 0∧(fl 1 (l.take i) m).getD (l.getD i 0).toNat 0≤2000:=by
   rw[hat];split<;>omega
  have e3:fl 1 (l.take (i+1)) m=(fl 1 (l.take i) m).set (l.getD i 0).toNat ((fl 1 (l.take i) m).getD (l.getD i 0).toNat 0+1):=by
   rw[cr l i 0 hi];unfold fl;rw[List.foldl_append];rfl
  rw[e3];simp(disch:=omega)only[wy,rs];rw[al]
 ·simp(disch:=omega)only[wy,rs]
theorem jg6(x:List Int)(h0:0<x.length)(hl:x.length≤1000000):∃M,n4 x=some M∧(∀i,i<x.length→x.getD i 0≤M)∧∃i,i<x.length∧x.getD i 0=M:=by
 have hloop:∃o,x0 x (x.getD 0 0,1)=some o∧∃M,o= .inl M∧(∀i,i<x.length→x.getD i 0≤M)∧∃i,i<x.length∧x.getD i 0=M:=by
  refine jam (fun(st:Int×Int)=>∃k:Nat,st.2=(k:Int)∧k≤x.length∧1≤k∧(∀i,i<k→x.getD i 0≤st.1)∧∃i,i<x.length∧x.getD i 0=st.1) (fun st=>((x.length:Int)-st.2).toNat) (fun(o:Int⊕Int)=>∃M,o= .inl M∧(∀i,i<x.length→x.getD i 0≤M)∧∃i,i<x.length∧x.getD i 0=M) _
   ⟨1,rfl,h0,Nat.le_refl 1,(fun i hi=>by
    have:i=0:=by omega
    subst this;exact Int.le_refl _),0,h0,rfl⟩ (by show((x.length:Int)-1).toNat<many;unfold many;omega) ?_
  rintro⟨M,_⟩ ⟨k,rfl,hk,hk1,hle,j,hj,hjM⟩;have hle:∀i,i<k→x.getD i 0≤M:=hle;have hjM:x.getD j 0=M:=hjM;by_cases hlt:k<x.length
  ·refine⟨.next (max M (x.getD k 0),((k+1:Nat):Int)),?_,⟨k+1,rfl,by omega,by omega,fun i hi=> ?_,?_⟩,by show((x.length:Int)-((k+1:Nat):Int)).toNat<((x.length:Int)-(k:Int)).toNat;omega⟩
   ·simp(disch:=omega)only[ky,rs];rw[al]
   ·show x.getD i 0≤max M (x.getD k 0);by_cases hik:i=k
    ·subst hik;exact Int.le_max_right _ _
    ·exact Int.le_trans (hle i (by omega)) (Int.le_max_left _ _)
   ·show∃i,i<x.length∧x.getD i 0=max M (x.getD k 0);rcases Int.le_total M (x.getD k 0)with hc|hc
    ·exact⟨k,hlt,(Int.max_eq_right hc).symm⟩
    ·exact⟨j,hj,hjM.trans (Int.max_eq_left hc).symm⟩
  ·obtain rfl:k=x.length:=by omega
   exact⟨.done M,by simp(disch:=omega)only[ky,rs],M,rfl,hle,j,hj,hjM⟩
 obtain⟨_,ho,M,rfl,h1,h2⟩:=hloop;refine⟨M,?_,h1,h2⟩;have d:decide ((x.length:Int)<1)=false:=decide_eq_false (by omega);have d2:ix 0 x.length=true:=jj1 h0;unfold n4;rw[d,d2,ho];rfl
structure Fired (n : cj) (m : List Int) (t : ag) (x : List Int) : Prop where
 mem : t ∈ n.2.1
 can : ∀ p ∈ t.2.1, 1 ≤ m.getD p.toNat 0
 len : x.length = m.length
 at_ : ∀ q : Nat, x.getD q 0 = m.getD q 0 + (if (q : Int) ∈ t.2.1 then -1 else 0) + (if (q : Int) ∈ t.2.2.1 then 1 else 0)
 mark : c8 n.1 x = true
end Go.Proofs.Ytokeielgplbdeaa
