/-
  Elimination on lists of rows: it keeps the solutions of least support, each once. No program is named.
-/
import Derived.Test.YtemahcdcacmgdaaGreatDoorZ3X4
set_option linter.all false
namespace Go.M
open Go.K
abbrev b9:Type:=List Int×List Int
def fn(l:List Int):Nat→Int:=fun i=>l.getD i 0
def dq(n:Nat)(a b:List Int):Bool:=(List.range n).all fun i=>decide (a.getD i 0=0)|| !decide (b.getD i 0=0)
theorem qey{n:Nat}{a b:List Int}:dq n a b=true↔Sup n (fn a) (fn b):=by
 unfold dq;rw[List.all_eq_true];constructor
 ·intro h i hi ha hb;have:=h i (List.mem_range.2 hi);simp only[Bool.or_eq_true,decide_eq_true_eq,Bool.not_eq_true',decide_eq_false_iff_not]at this;exact this.elim ha fun h=>h hb
 ·intro h i hi;simp only[Bool.or_eq_true,decide_eq_true_eq,Bool.not_eq_true',decide_eq_false_iff_not];by_cases e:a.getD i 0=0
  ·exact .inl e
  ·exact .inr (h i (List.mem_range.1 hi) e)
def qvl(n:Nat)(S:List b9)(x:b9):List b9:=bif S.any (fun r=>dq n r.2 x.2)then S else S.filter (fun r=> !dq n x.2 r.2)++[x]
def jf5(x:Int)(a:List Int)(y:Int)(b:List Int):List Int:=bg a.length fun i=>x*a.getD i 0+y*b.getD i 0
def qvw(l:List Int):Nat:=gN (fn l) l.length
def qpz(g:Int)(l:List Int):List Int:=bif decide (1<g)then l.map (fun x=>Int.tdiv x g)else l
def qrx(r:b9):b9:=(qpz (qvw (r.1++r.2)) r.1,qpz (qvw (r.1++r.2)) r.2)
def qwf(c:Nat)(p q:b9):b9:=(jf5 (-(q.1.getD c 0)) p.1 (p.1.getD c 0) q.1,jf5 (-(q.1.getD c 0)) p.2 (p.1.getD c 0) q.2)
def qxa(c:Nat)(p q:b9):b9:=qrx (qwf c p q)
def q10(n c:Nat)(S:List b9)(r:b9):List b9:=bif decide (r.1.getD c 0=0)then qvl n S r else S
def qz8(n c:Nat)(p:b9)(S:List b9)(q:b9):List b9:=bif decide (0<p.1.getD c 0)&&decide (q.1.getD c 0<0)then qvl n S (qxa c p q)else S
def qq8(n c:Nat)(L:List b9):List b9:=L.foldl (fun S p=>L.foldl (qz8 n c p) S) (L.foldl (q10 n c) [])
def wv(n m:Nat)(L:List b9):List b9:=(List.range m).foldl (fun L c=>qq8 n c L) L
def PW(n:Nat)(S:List b9):Prop:=S.Pairwise fun r s=>¬Sup n (fn r.2) (fn s.2)∧¬Sup n (fn s.2) (fn r.2)
structure InvE (n : Nat) (P C : b9 → Prop) (S : List b9) : Prop where
 all : ∀ r ∈ S, P r
 cov : ∀ x, C x → ∃ r ∈ S, Sup n (fn r.2) (fn x.2)
 pw : PW n S
theorem InvE.nil(n:Nat)(P:b9→Prop):InvE n P (fun _=>False) []:=⟨fun r h=>by simp at h,fun _ h=>h.elim,List.Pairwise.nil⟩
theorem InvE.weak{n:Nat}{P C C' :b9→Prop}{S:List b9}(h:InvE n P C S)(hc:∀x,C' x→C x):InvE n P C' S:=⟨h.all,fun x hx=>h.cov x (hc x hx),h.pw⟩
theorem InvE.add{n:Nat}{P C:b9→Prop}{S:List b9}(h:InvE n P C S){x:b9}(hx:P x):InvE n P (fun y=>C y∨y=x) (qvl n S x):=by
 unfold qvl;cases ha:S.any (fun r=>dq n r.2 x.2)with
 |true=>
  obtain⟨r,hr,hw⟩:=List.any_eq_true.1 ha;refine⟨h.all,fun y hy=> ?_,h.pw⟩;rcases hy with hy|rfl
  ·exact h.cov y hy
  ·exact⟨r,hr,qey.1 hw⟩
 |false=>
  have hno:=List.any_eq_false.1 ha;refine⟨fun r hr=> ?_,fun y hy=> ?_,?_⟩
  ·rcases List.mem_append.1 hr with hr|hr
   ·exact h.all r (List.mem_filter.1 hr).1
   ·rw[List.mem_singleton.1 hr];exact hx
  ·rcases hy with hy|rfl
   ·obtain⟨r,hr,hs⟩:=h.cov y hy;cases hk:dq n x.2 r.2 with
    |true=>exact⟨x,List.mem_append_right _ (List.mem_singleton.2 rfl),(qey.1 hk).trans hs⟩
    |false=>exact⟨r,List.mem_append_left _ (List.mem_filter.2 ⟨hr,by rw[hk];rfl⟩),hs⟩
   ·exact⟨y,List.mem_append_right _ (List.mem_singleton.2 rfl),Sup.refl _ _⟩
  ·refine List.pairwise_append.2 ⟨h.pw.filter _,List.pairwise_singleton _ _,fun r hr s hs=> ?_⟩;rw[List.mem_singleton.1 hs];obtain⟨hr1,hr2⟩:=List.mem_filter.1 hr;refine⟨fun hc=>hno r hr1 (qey.2 hc),fun hc=> ?_⟩;rw[qey.2 hc]at hr2;cases hr2
theorem InvE.fold{n:Nat}{P:b9→Prop}{α:Type}(f:α→Option b9)(step:List b9→α→List b9)(hstep:∀S a,step S a=match f a with|some x=>qvl n S x|none=>S):
  ∀(l:List α) (C:b9→Prop) (S:List b9),InvE n P C S→(∀a∈l,∀x,f a=some x→P x)→InvE n P (fun y=>C y∨∃a∈l,f a=some y) (l.foldl step S)
 |[],C,S,h,_=>h.weak fun x hx=>by
  rcases hx with hx|⟨a,ha,_⟩
  ·exact hx
  ·simp at ha
 |a::l,C,S,h,hP=>by
  rw[List.foldl_cons,hstep];cases hf:f a with
  |none=>
   refine(InvE.fold f step hstep l C S h fun b hb=>hP b (List.mem_cons_of_mem _ hb)).weak fun x hx=> ?_
   rcases hx with hx|⟨b,hb,e⟩
   ·exact .inl hx
   ·rcases List.mem_cons.1 hb with rfl|hb
    ·rw[hf]at e;cases e
    ·exact .inr ⟨b,hb,e⟩
  |some y=>
   refine(InvE.fold f step hstep l _ _ (h.add (hP a List.mem_cons_self y hf)) fun b hb=>hP b (List.mem_cons_of_mem _ hb)).weak fun x hx=> ?_
   rcases hx with hx|⟨b,hb,e⟩
   ·exact .inl (.inl hx)
   ·rcases List.mem_cons.1 hb with rfl|hb
    ·rw[hf]at e;injection e with e
     exact .inl (.inr e.symm)
    ·exact .inr ⟨b,hb,e⟩
def msk(y:Nat→Int):Nat→Nat
 |0=>0
 |n+1=>msk y n+if y n=0 then 0 else 2 ^ n
theorem q1w(y:Nat→Int):∀n,msk y n<2 ^ n
 |0=>by simp[msk]
 |n+1=>by
  have:=q1w y n;rw[Nat.pow_succ];unfold msk;split<;>omega
theorem q6w(y:Nat→Int)(i:Nat):∀n,(msk y n).testBit i=(decide (i<n)&& !decide (y i=0))
 |0=>by simp[msk]
 |n+1=>by
  have hl:=q1w y n;have ih:=q6w y i n;unfold msk;by_cases e:y n=0
  ·rw[if_pos e,Nat.add_zero,ih];by_cases h:i=n
   ·subst h;simp[e]
   ·have:decide (i<n+1)=decide (i<n):=decide_eq_decide.2 (by omega);rw[this]
  ·rw[if_neg e,Nat.add_comm];by_cases h:i=n
   ·subst h;rw[Nat.testBit_two_pow_add_eq,ih];simp[e]
   ·rcases Nat.lt_or_ge i n with h1|h1
    ·rw[Nat.testBit_two_pow_add_gt h1,ih];have:decide (i<n+1)=decide (i<n):=decide_eq_decide.2 (by omega);rw[this]
    ·have h2:2 ^ n+msk y n<2 ^ i:=by
      have:2 ^ (n+1)≤2 ^ i:=Nat.pow_le_pow_right (by omega) (by omega);rw[Nat.pow_succ]at this;omega
     rw[Nat.testBit_lt_two_pow h2];have:decide (i<n+1)=false:=decide_eq_false (by omega);rw[this];rfl
theorem q9c:∀(l m:List Nat),l.Nodup→(∀x∈l,x∈m)→l.length≤m.length
 |[],_,_,_=>by simp
 |a::l,m,hn,hs=>by
  obtain⟨h1,h2⟩:=List.nodup_cons.1 hn;have ha:a∈m:=hs a List.mem_cons_self;have ih:=q9c l (m.erase a) h2 (fun x hx=>(List.mem_erase_of_ne (fun e=>h1 (by rw[←e];exact hx))).2 (hs x (List.mem_cons_of_mem _ hx)));rw[List.length_erase_of_mem ha]at ih;have:0<m.length:=List.length_pos_of_mem ha;simp only[List.length_cons];omega
theorem PW.len{n:Nat}{S:List b9}(h:PW n S):S.length≤2 ^ n:=by
 have hnd:(S.map fun r=>msk (fn r.2) n).Nodup:=by
  unfold PW at h;refine(List.pairwise_map).2 (h.imp fun{r s} hrs e=>hrs.1 fun i hi hr hs=> ?_);have h1:=q6w (fn r.2) i n;have h2:=q6w (fn s.2) i n;rw[e,h2]at h1;simp[hi,hr,hs]at h1
 have:=q9c _ (List.range (2 ^ n)) hnd fun x hx=>by
  obtain⟨r,_,rfl⟩:=List.mem_map.1 hx;exact List.mem_range.2 (q1w _ _)
 simpa using this
structure RowOK (n m c : Nat) (A : Nat → Nat → Int) (r : b9) : Prop where
 len : r.2.length = n
 wid : r.1.length = m
 left : ∀ j, j < m → r.1.getD j 0 = au (fun i => fn r.2 i * A i j) n
 sol : Sol n c A (fn r.2)
 nz : NZ n (fn r.2)
 prim : qtt n (fn r.2)
structure GoodE (n m c : Nat) (A : Nat → Nat → Int) (L : List b9) : Prop where
 row : ∀ r ∈ L, RowOK n m c A r
 min : ∀ r ∈ L, qts n c A (fn r.2)
 cov : ∀ y, qts n c A y → qtt n y → ∃ r ∈ L, EqN n (fn r.2) y
 pw : PW n L
variable {n m c : Nat} {A : Nat → Nat → Int}
theorem jjr{y:Nat→Int}:Sol n (c+1) A y↔Sol n c A y∧au (fun i=>y i*A i c) n=0:=by
 constructor
 ·intro h;exact⟨⟨h.1,fun j hj=>h.2 j (by omega)⟩,h.2 c (by omega)⟩
 ·intro h;refine⟨h.1.1,fun j hj=> ?_⟩;by_cases e:j=c
  ·subst e;exact h.2
  ·exact h.1.2 j (by omega)
theorem jfs{x y:Int}{a b:List Int}{i:Nat}(h:i<a.length):fn (jf5 x a y b) i=x*fn a i+y*fn b i:=wa h
theorem qyz(x y:Int)(a b:List Int):(jf5 x a y b).length=a.length:=om _ _
theorem jom(x y:Int)(f g h:Nat→Int):∀n,au (fun i=>(x*f i+y*g i)*h i) n=x*au (fun i=>f i*h i) n+y*au (fun i=>g i*h i) n
 |0=>by simp[au]
 |n+1=>by
  simp only[au];rw[jom x y f g h n,Int.add_mul,Int.mul_assoc,Int.mul_assoc,Int.mul_add,Int.mul_add];omega
theorem j2h(l:List Int)(f:Int→Int){i:Nat}(h:i<l.length):fn (l.map f) i=f (fn l i):=by
 unfold fn;rw[List.getD_eq_getElem?_getD,List.getElem?_map,List.getElem?_eq_getElem h,List.getD_eq_getElem?_getD,List.getElem?_eq_getElem h];rfl
theorem jfq{a b:List Int}{i:Nat}(h:i<a.length):fn (a++b) i=fn a i:=by
 unfold fn;rw[List.getD_eq_getElem?_getD,List.getElem?_append_left h,←List.getD_eq_getElem?_getD]
theorem jfr{a b:List Int}{i:Nat}:fn (a++b) (a.length+i)=fn b i:=by
 unfold fn;rw[List.getD_eq_getElem?_getD,List.getElem?_append_right (by omega),←List.getD_eq_getElem?_getD,Nat.add_sub_cancel_left]
theorem jm7{f:Nat→Int}{d:Int}:∀n,(∀i,i<n→d ∣ f i)→d ∣ au f n
 |0,_=>⟨0,by simp[au]⟩
 |n+1,h=>Int.dvd_add (jm7 n fun i hi=>h i (by omega)) (h n (by omega))
theorem jnd{r:b9}(hlen:r.2.length=n)(hl:∀j,j<r.1.length→fn r.1 j=au (fun i=>fn r.2 i*A i j) n):qvw (r.1++r.2)=gN (fn r.2) n:=by
 unfold qvw;rw[List.length_append];have h1:gN (fn (r.1++r.2)) (r.1.length+r.2.length)∣ gN (fn r.2) n:=jff fun i hi=>by
  have:=qnl (fn (r.1++r.2)) (n:=r.1.length+r.2.length) (r.1.length+i) (by omega);rw[jfr]at this;exact this
 have h2:gN (fn r.2) n ∣ gN (fn (r.1++r.2)) (r.1.length+r.2.length):=jff fun i hi=>by
  by_cases h:i<r.1.length
  ·rw[jfq h,hl i h];have h4:((gN (fn r.2) n:Nat):Int)∣ au (fun k=>fn r.2 k*A k i) n:=jm7 n fun k hk=>by
    have:=qnl (fn r.2) k hk;have h3:((gN (fn r.2) n:Nat):Int)∣ fn r.2 k:=Int.natAbs_dvd_natAbs.1 (by rw[Int.natAbs_natCast];exact this);exact Int.dvd_trans h3 ⟨A k i,rfl⟩
   have h5:=Int.natAbs_dvd_natAbs.2 h4;rwa[Int.natAbs_natCast]at h5
  ·have e:i=r.1.length+(i-r.1.length):=by omega
   rw[e,jfr];exact qnl _ _ (by omega)
 exact Nat.dvd_antisymm h1 h2
theorem q7x(g:Int)(l:List Int):(qpz g l).length=l.length:=by
 unfold qpz;cases decide (1<g)<;>simp
theorem jm5{g:Nat}(h0:g≠0){l:List Int}{i:Nat}(hi:i<l.length)(hd:g ∣ (fn l i).natAbs):fn l i=(g:Int)*fn (qpz g l) i:=by
 unfold qpz;by_cases h:(1:Int)<(g:Int)
 ·rw[decide_eq_true h,cond_true,j2h _ _ hi];have h3:((g:Nat):Int)∣ fn l i:=Int.natAbs_dvd_natAbs.1 (by rw[Int.natAbs_natCast];exact hd);obtain⟨k,hk⟩:=h3;rw[hk,Int.mul_tdiv_cancel_left _ (by omega)]
 ·have:g=1:=by omega
  subst this;rw[decide_eq_false h,cond_false];simp
theorem jww{r:b9}(hlen:r.2.length=n)(hwid:r.1.length=m)(hl:∀j,j<m→r.1.getD j 0=au (fun i=>fn r.2 i*A i j) n)(hs:Sol n c A (fn r.2))(hn:NZ n (fn r.2)):
  RowOK n m c A (qrx r)∧Sup n (fn (qrx r).2) (fn r.2):=by
 have hg:qvw (r.1++r.2)=gN (fn r.2) n:=jnd hlen fun j hj=>hl j (by omega)
 have hg0:gN (fn r.2) n≠0:=fun e=>by
  obtain⟨i,hi,h⟩:=hn;exact h (jnc e i hi)
 have hx:∀i,i<n→fn r.2 i=(gN (fn r.2) n:Int)*fn (qpz (gN (fn r.2) n) r.2) i:=fun i hi=>jm5 hg0 (by omega) (qnl _ i hi)
 have hgp:(0:Int)<(gN (fn r.2) n:Int):=by omega
 have hsup:=joo hgp hx;unfold qrx;rw[hg];refine⟨⟨by simp only[q7x];exact hlen,by simp only[q7x];exact hwid,fun j hj=> ?_,joe hgp hx hs,?_,?_⟩,hsup.1⟩
 ·have hd:gN (fn r.2) n ∣ (fn r.1 j).natAbs:=by
   rw[←hg];have:=qnl (fn (r.1++r.2)) (n:=(r.1++r.2).length) j (by rw[List.length_append];omega);rw[jfq (by omega)]at this;exact this
  have e1:=jm5 hg0 (l:=r.1) (i:=j) (by omega) hd;have e2:fn r.1 j=(gN (fn r.2) n:Int)*au (fun i=>fn (qpz (gN (fn r.2) n) r.2) i*A i j) n:=by
   rw[←m9];refine(hl j hj).trans (bu fun i hi=> ?_);rw[hx i hi,Int.mul_assoc]
  rw[e1]at e2;exact Int.eq_of_mul_eq_mul_left (by omega) e2
 ·obtain⟨i,hi,h⟩:=hn;exact⟨i,hi,hsup.2 i hi h⟩
 ·have e:=qyn (n:=n) (y:=fn r.2) (z:=fun i=>(gN (fn r.2) n:Int)*fn (qpz (gN (fn r.2) n) r.2) i) hx;rw[q8k,Int.natAbs_natCast]at e;unfold qtt;have hg1:0<gN (fn r.2) n:=by omega
  exact Nat.eq_of_mul_eq_mul_left hg1 (by rw[Nat.mul_one];exact e.symm)
theorem j28{p q:b9}(hp:RowOK n m c A p)(hq:RowOK n m c A q)(hc:c<m)(h1:0<p.1.getD c 0)(h2:q.1.getD c 0<0):
  (qwf c p q).2.length=n∧(qwf c p q).1.length=m∧(∀j,j<m→(qwf c p q).1.getD j 0=au (fun i=>fn (qwf c p q).2 i*A i j) n)∧Sol n (c+1) A (fn (qwf c p q).2)∧NZ n (fn (qwf c p q).2):=by
 have e:∀i,i<n→fn (qwf c p q).2 i= -(q.1.getD c 0)*fn p.2 i+p.1.getD c 0*fn q.2 i:=fun i hi=>jfs (by rw[hp.len];exact hi)
 have es:∀j,au (fun i=>fn (qwf c p q).2 i*A i j) n= -(q.1.getD c 0)*au (fun i=>fn p.2 i*A i j) n+p.1.getD c 0*au (fun i=>fn q.2 i*A i j) n:=fun j=>by
  rw[←jom];exact bu fun i hi=>by rw[e i hi]
 refine⟨(qyz _ _ _ _).trans hp.len,(qyz _ _ _ _).trans hp.wid,fun j hj=> ?_,⟨fun i hi=> ?_,fun j hj=> ?_⟩,?_⟩
 ·rw[es,←hp.left j hj,←hq.left j hj];exact jfs (by rw[hp.wid];exact hj)
 ·rw[e i hi];have a1:=hp.sol.1 i hi;have a2:=hq.sol.1 i hi;have b1:0≤-(q.1.getD c 0)*fn p.2 i:=Int.mul_nonneg (by omega) a1;have b2:0≤p.1.getD c 0*fn q.2 i:=Int.mul_nonneg (by omega) a2;omega
 ·rw[es];by_cases h:j=c
  ·subst h;rw[←hp.left j hc,←hq.left j hc,Int.neg_mul,Int.mul_comm];omega
  ·rw[hp.sol.2 j (by omega),hq.sol.2 j (by omega)];simp
 ·obtain⟨i,hi,h⟩:=hp.nz;refine⟨i,hi,?_⟩;rw[e i hi];have a1:=hp.sol.1 i hi;have a2:=hq.sol.1 i hi;have b1:0< -(q.1.getD c 0)*fn p.2 i:=Int.mul_pos (by omega) (by omega);have b2:0≤p.1.getD c 0*fn q.2 i:=Int.mul_nonneg (by omega) a2;omega
theorem jmy{p q:b9}(hp:RowOK n m c A p)(hq:RowOK n m c A q)(hc:c<m)(h1:0<p.1.getD c 0)(h2:q.1.getD c 0<0):
  RowOK n m (c+1) A (qxa c p q)∧∀y,Sup n (fn p.2) y→Sup n (fn q.2) y→Sup n (fn (qxa c p q).2) y:=by
 obtain⟨a1,a2,a3,a4,a5⟩:=j28 hp hq hc h1 h2;obtain⟨b1,b2⟩:=jww a1 a2 a3 a4 a5;refine⟨b1,fun y hp' hq' i hi h=> ?_⟩;have h3:=b2 i hi h;have e:fn (qwf c p q).2 i= -(q.1.getD c 0)*fn p.2 i+p.1.getD c 0*fn q.2 i:=jfs (by rw[hp.len];exact hi);rw[e]at h3;by_cases e1:fn p.2 i=0
 ·by_cases e2:fn q.2 i=0
  ·rw[e1,e2]at h3;simp at h3
  ·exact hq' i hi e2
 ·exact hp' i hi e1
theorem jva{L:List b9}(hL:GoodE n m c A L)(hc:c<m){r:b9}(hr:r∈L)(h:r.1.getD c 0=0):RowOK n m (c+1) A r:=by
 have h1:=hL.row r hr;exact⟨h1.len,h1.wid,h1.left,jjr.2 ⟨h1.sol,by rw[←h1.left c hc];exact h⟩,h1.nz,h1.prim⟩
def jxu(c:Nat)(L:List b9)(x:b9):Prop:=(x∈L∧x.1.getD c 0=0)∨∃p∈L,∃q∈L,0<p.1.getD c 0∧q.1.getD c 0<0∧x=qxa c p q
theorem q9f{L:List b9}(hL:GoodE n m c A L)(hc:c<m)(l:List b9)(hl:∀r∈l,r∈L):InvE n (RowOK n m (c+1) A) (fun x=>x∈l∧x.1.getD c 0=0) (l.foldl (q10 n c) []):=by
 refine(InvE.fold (fun r=>bif decide (r.1.getD c 0=0)then some r else none) (q10 n c) (fun S a=> ?_) l _ _ (InvE.nil n _) fun a ha x hx=> ?_).weak fun x hx=> ?_
 ·unfold q10;cases decide (a.1.getD c 0=0)<;>rfl
 ·cases hd:decide (a.1.getD c 0=0)with
  |false=>rw[hd]at hx;cases hx
  |true=>
   rw[hd]at hx;injection hx with hx
   subst hx;exact jva hL hc (hl a ha) (of_decide_eq_true hd)
 ·exact .inr ⟨x,hx.1,by rw[decide_eq_true hx.2];rfl⟩
theorem jaq{L:List b9}(hL:GoodE n m c A L)(hc:c<m){p:b9}(hp:p∈L){C:b9→Prop}{S:List b9}(hS:InvE n (RowOK n m (c+1) A) C S)(l:List b9)(hl:∀r∈l,r∈L):
  InvE n (RowOK n m (c+1) A) (fun x=>C x∨∃q∈l,0<p.1.getD c 0∧q.1.getD c 0<0∧x=qxa c p q) (l.foldl (qz8 n c p) S):=by
 refine(InvE.fold (fun q=>bif decide (0<p.1.getD c 0)&&decide (q.1.getD c 0<0)then some (qxa c p q)else none) (qz8 n c p) (fun S a=> ?_) l _ _ hS fun a ha x hx=> ?_).weak fun x hx=> ?_
 ·unfold qz8;cases decide (0<p.1.getD c 0)&&decide (a.1.getD c 0<0)<;>rfl
 ·cases hd:decide (0<p.1.getD c 0)&&decide (a.1.getD c 0<0)with
  |false=>rw[hd]at hx;cases hx
  |true=>
   rw[hd]at hx;injection hx with hx
   subst hx;rw[Bool.and_eq_true,decide_eq_true_eq,decide_eq_true_eq]at hd;exact(jmy (hL.row p hp) (hL.row a (hl a ha)) hc hd.1 hd.2).1
 ·rcases hx with hx|⟨q,hq,h1,h2,rfl⟩
  ·exact .inl hx
  ·exact .inr ⟨q,hq,by rw[decide_eq_true h1,decide_eq_true h2];rfl⟩
theorem q67{L:List b9}(hL:GoodE n m c A L)(hc:c<m):∀(l:List b9),(∀r∈l,r∈L)→∀(C:b9→Prop) (S:List b9),InvE n (RowOK n m (c+1) A) C S→
  InvE n (RowOK n m (c+1) A) (fun x=>C x∨∃p∈l,∃q∈L,0<p.1.getD c 0∧q.1.getD c 0<0∧x=qxa c p q) (l.foldl (fun S p=>L.foldl (qz8 n c p) S) S)
 |[],_,C,S,hS=>hS.weak fun x hx=>by
  rcases hx with hx|⟨p,hp,_⟩
  ·exact hx
  ·simp at hp
 |p::l,hl,C,S,hS=>by
  rw[List.foldl_cons];refine(q67 hL hc l (fun r hr=>hl r (List.mem_cons_of_mem _ hr)) _ _ (jaq hL hc (hl p List.mem_cons_self) hS L fun r hr=>hr)).weak fun x hx=> ?_
  rcases hx with hx|⟨p',hp',hx⟩
  ·exact .inl (.inl hx)
  ·rcases List.mem_cons.1 hp' with rfl|hp'
   ·obtain⟨q,hq,hx⟩:=hx;exact .inl (.inr ⟨q,hq,hx⟩)
   ·exact .inr ⟨p',hp',hx⟩
theorem jpq{L:List b9}(hL:GoodE n m c A L)(hc:c<m):InvE n (RowOK n m (c+1) A) (jxu c L) (qq8 n c L):=
 (q67 hL hc L (fun _ h=>h) _ _ (q9f hL hc L fun _ h=>h)).weak fun _ hx=>hx
theorem PW.eq{S:List b9}(h:PW n S){r s:b9}(hr:r∈S)(hs:s∈S)(hsup:Sup n (fn r.2) (fn s.2)):r=s:=by
 apply Classical.byContradiction;intro hne;obtain⟨i,hi,rfl⟩:=List.mem_iff_getElem.1 hr;obtain⟨j,hj,rfl⟩:=List.mem_iff_getElem.1 hs;have hij:i≠j:=fun e=>hne (by subst e;rfl)
 have hp:=List.pairwise_iff_getElem.1 h;rcases Nat.lt_or_gt_of_ne hij with h1|h1
 ·exact(hp i j hi hj h1).1 hsup
 ·exact(hp j i hj hi h1).2 hsup
theorem jk3{L:List b9}(hL:GoodE n m c A L)(hc:c<m):GoodE n m (c+1) A (qq8 n c L):=by
 have hI:=jpq hL hc;have hcov:∀y,qts n (c+1) A y→qtt n y→∃r∈qq8 n c L,EqN n (fn r.2) y:=by
  intro y hy hP;have hys:=jjr.1 hy.1;have hcand:∃x,jxu c L x∧Sup n (fn x.2) y:=by
   by_cases hz:∃r∈L,Sup n (fn r.2) y∧r.1.getD c 0=0
   ·obtain⟨r,hr,h1,h2⟩:=hz;exact⟨r, .inl ⟨hr,h2⟩,h1⟩
   ·by_cases hp:∃p∈L,Sup n (fn p.2) y∧0<p.1.getD c 0
    ·by_cases hq:∃q∈L,Sup n (fn q.2) y∧q.1.getD c 0<0
     ·obtain⟨p,hp1,hp2,hp3⟩:=hp;obtain⟨q,hq1,hq2,hq3⟩:=hq;exact⟨qxa c p q, .inr ⟨p,hp1,q,hq1,hp3,hq3,rfl⟩,(jmy (hL.row p hp1) (hL.row q hq1) hc hp3 hq3).2 y hp2 hq2⟩
     ·exfalso;have:=jn1 (fun i=>A i c) _ y (Nat.le_refl _) hys.1 hy.2.1 fun r h1 h2 h3=>by
       obtain⟨s,hs,he⟩:=hL.cov r h1 h2;have hsy:Sup n (fn s.2) y:=fun i hi h=>h3 i hi (by rw[←he i hi];exact h)
       have e1:au (fun i=>r i*A i c) n=s.1.getD c 0:=by
        rw[(hL.row s hs).left c hc];exact bu fun i hi=>by rw[he i hi]
       rw[e1];rcases Int.lt_trichotomy (s.1.getD c 0) 0 with h|h|h
       ·exact absurd ⟨s,hs,hsy,h⟩ hq
       ·exact absurd ⟨s,hs,hsy,h⟩ hz
       ·exact h
      rw[hys.2]at this;omega
    ·exfalso;have:=jn1 (A:=A) (fun i=> -A i c) _ y (Nat.le_refl _) hys.1 hy.2.1 fun r h1 h2 h3=>by
      obtain⟨s,hs,he⟩:=hL.cov r h1 h2;have hsy:Sup n (fn s.2) y:=fun i hi h=>h3 i hi (by rw[←he i hi];exact h)
      have e0:au (fun i=>r i* -A i c) n= -au (fun i=>r i*A i c) n:=by
       have:au (fun i=>r i* -A i c) n=au (fun i=>(-1)*(r i*A i c)) n:=bu fun i _=>by rw[Int.mul_neg,Int.neg_one_mul]
       rw[this,m9];omega
      have e1:au (fun i=>r i*A i c) n=s.1.getD c 0:=by
       rw[(hL.row s hs).left c hc];exact bu fun i hi=>by rw[he i hi]
      rw[e0,e1];rcases Int.lt_trichotomy (s.1.getD c 0) 0 with h|h|h
      ·omega
      ·exact absurd ⟨s,hs,hsy,h⟩ hz
      ·exact absurd ⟨s,hs,hsy,h⟩ hp
     have e0:au (fun i=>y i* -A i c) n= -au (fun i=>y i*A i c) n:=by
      have:au (fun i=>y i* -A i c) n=au (fun i=>(-1)*(y i*A i c)) n:=bu fun i _=>by rw[Int.mul_neg,Int.neg_one_mul]
      rw[this,m9];omega
     rw[e0,hys.2]at this;omega
  obtain⟨x,hx,hxy⟩:=hcand;obtain⟨r,hr,hrx⟩:=hI.cov x hx;have hro:=hI.all r hr;exact⟨r,hr,q82 hy hP hro.sol hro.nz hro.prim (hrx.trans hxy)⟩
 refine⟨hI.all,fun r hr=> ?_,hcov,hI.pw⟩;have hro:=hI.all r hr;obtain⟨p,hp,hpn⟩:=hro.nz;obtain⟨y,y1,y2,y3,_⟩:=jtq hro.sol hp hpn;obtain⟨s,hs,he⟩:=hcov y y1 y2;have hsr:Sup n (fn s.2) (fn r.2):=fun i hi h=>y3 i hi (by rw[←he i hi];exact h)
 have:=hI.pw.eq hs hr hsr;subst this;refine⟨hro.sol,hro.nz,fun z h1 h2 h3 i hi h=> ?_⟩;exact y1.2.2 z h1 h2 (fun k hk hz=>by rw[←he k hk];exact h3 k hk hz) i hi (by rw[←he i hi];exact h)
def qce(n p:Nat):List Int:=bg n fun i=>if i=p then 1 else 0
def si(n m:Nat)(A:Nat→Nat→Int):List b9:=bg n fun p=>(bg m fun j=>A p j,qce n p)
theorem qiy{p i:Nat}(hi:i<n):fn (qce n p) i=if i=p then 1 else 0:=wa hi
theorem qwk(n m:Nat)(A:Nat→Nat→Int):GoodE n m 0 A (si n m A):=by
 have hmem:∀r∈si n m A,∃p,p<n∧r=(bg m fun j=>A p j,qce n p):=fun r hr=>by
  obtain⟨p,hp,e⟩:=joq.1 hr;exact⟨p,hp,e.symm⟩
 have hsol:∀p,Sol n 0 A (fn (qce n p)):=fun p=>⟨fun i hi=>by rw[qiy hi];split<;>omega,fun j hj=>by omega⟩
 have hnz:∀p,p<n→NZ n (fn (qce n p)):=fun p hp=>⟨p,hp,by rw[qiy hp,if_pos rfl];omega⟩
 have hone:∀p i,i<n→fn (qce n p) i≠0→i=p:=fun p i hi h=>by
  rw[qiy hi]at h;by_cases e:i=p
  ·exact e
  ·rw[if_neg e]at h;exact absurd rfl h
 have hprim:∀p,p<n→qtt n (fn (qce n p)):=fun p hp=>by
  have:=qnl (fn (qce n p)) p hp;rw[qiy hp,if_pos rfl]at this;exact Nat.dvd_one.1 this
 have hmin:∀p,p<n→qts n 0 A (fn (qce n p)):=fun p hp=>⟨hsol p,hnz p hp,fun z h1 ⟨k,hk,hkz⟩ h3 i hi h=>by
  have e1:=hone p i hi h;have e2:=hone p k hk (h3 k hk hkz);rw[e1,←e2];exact hkz⟩
 refine⟨fun r hr=> ?_,fun r hr=> ?_,fun y hy hP=> ?_,?_⟩
 ·obtain⟨p,hp,rfl⟩:=hmem r hr;refine⟨om _ _,om _ _,fun j hj=> ?_,hsol p,hnz p hp,hprim p hp⟩;show(bg m fun j=>A p j).getD j 0=au (fun i=>fn (qce n p) i*A i j) n;rw[wa hj,qex (i:=p) hp fun k hk hne=>by rw[qiy hk,if_neg hne,Int.zero_mul],qiy hp,if_pos rfl,Int.one_mul]
 ·obtain⟨p,hp,rfl⟩:=hmem r hr;exact hmin p hp
 ·obtain⟨p,hp,h⟩:=hy.2.1;refine⟨(bg m fun j=>A p j,qce n p),joq.2 ⟨p,hp,rfl⟩,?_⟩;exact q82 hy hP (hsol p) (hnz p hp) (hprim p hp) fun i hi hne=>by rw[hone p i hi hne];exact h
 ·unfold si PW;refine List.pairwise_iff_getElem.2 fun i j hi hj hij=> ?_
  simp only[bg,List.getElem_map,List.getElem_range];rw[om]at hi hj;have h1:¬Sup n (fn (qce n i)) (fn (qce n j)):=fun h=>by
   have:=hone j i hi (h i hi (by rw[qiy hi,if_pos rfl];omega));omega
  have h2:¬Sup n (fn (qce n j)) (fn (qce n i)):=fun h=>by
   have:=hone i j hj (h j hj (by rw[qiy hj,if_pos rfl];omega));omega
  exact⟨h1,h2⟩
theorem qm2{L:List b9}(hL:GoodE n m 0 A L):∀k,k≤m→GoodE n m k A (wv n k L)
 |0,_=>hL
 |k+1,h=>by
  unfold wv;rw[List.range_succ,List.foldl_append];exact jk3 (qm2 hL k (by omega)) (by omega)
theorem jlf(hA:∀i j,-1≤A i j∧A i j≤1){L:List b9}(hL:GoodE n m c A L){R:Nat}(hR:c≤R∨n≤R+1){r:b9}(hr:r∈L):
  (∀i,0≤r.2.getD i 0∧r.2.getD i 0≤fac R)∧∀j,-((n:Int)*fac R)≤r.1.getD j 0∧r.1.getD j 0≤(n:Int)*fac R:=by
 have ho:=hL.row r hr;have hb:=jqd hA (hL.min r hr) ho.prim hR;have hf:=q6o R;have h2:∀i,0≤r.2.getD i 0∧r.2.getD i 0≤fac R:=fun i=>by
  by_cases hi:i<n
  ·exact⟨ho.sol.1 i hi,hb i hi⟩
  ·rw[List.getD_eq_getElem?_getD,List.getElem?_eq_none (by rw[ho.len];omega)];show(0:Int)≤0∧0≤fac R;omega
 refine⟨h2,fun j=> ?_⟩;by_cases hj:j<m
 ·rw[ho.left j hj];refine jal n fun k hk=> ?_
  have h3:=h2 k;have:=qcq (a:=fac R) (b:=1) (x:=fn r.2 k) (y:=A k j) (by show-fac R≤r.2.getD k 0∧r.2.getD k 0≤fac R;omega) (hA k j);rw[Int.mul_one]at this;exact this
 ·rw[List.getD_eq_getElem?_getD,List.getElem?_eq_none (by rw[ho.wid];omega)];have:0≤(n:Int)*fac R:=Int.mul_nonneg (by omega) (by omega);show-((n:Int)*fac R)≤0∧0≤(n:Int)*fac R;omega
end Go.M
