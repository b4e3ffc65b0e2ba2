/-
  Sorting rows of numbers: the rounds of pdqsort, the whole.
-/
import Derived.Test.YtclbndfjhjladaaGreatZ7V5
set_option linter.all false
namespace Go.Proofs.YtclbndfjhjladaaGreat
open Go.K Go.M
abbrev RcT:Type:=((Unit×Int×Int×Int×(Unit)×Unit)×(Rw×Unit))→Option Rw
abbrev PqS:Type:=Int×Int×Int×Bool×Bool×Rw
abbrev PqR:Type:=LR PqS Unit Rw
def q6i(rec:RcT)(a b lim:Int)(wb wp:Bool)(pv:Int)(fl:Bool)(d:Rw):Option PqR:=
 bnd (az rec a b lim wb wp (b-a) pv fl d) fun oe=>
 lk oe (fun e=>
  bif decide ((0:Int)<a)then
   ae (bc .i64 (a-1))<|
   ae (ix (a-1) e.length)<|
   ae (ix (a-1) e.length)<|
   ae (ix pv e.length)<|
   ae (ix pv e.length)<|
   bnd (ba (e.getD (Int.toNat (a-1)) []) (e.getD (Int.toNat pv) [])) fun r=>
   bif (!(decide (r<0)))then
    bnd (aw a b pv e) fun r9=>
    ae (decide (r9.2.length=e.length))<|
    some (.next (r9.1,b,lim,wb,wp,r9.2))
   else
    bnd (ag rec a b lim (b-a) pv e) fun o2=>
    lk o2 (fun e2=>some (.next (e2.1,e2.2.1,lim,e2.2.2.1,e2.2.2.2.1,e2.2.2.2.2))) (fun r=>some (.ret r))
  else
   bnd (ag rec a b lim (b-a) pv e) fun o2=>
   lk o2 (fun e2=>some (.next (e2.1,e2.2.1,lim,e2.2.2.1,e2.2.2.2.1,e2.2.2.2.2))) (fun r=>some (.ret r))) (fun r=>some (.ret r))
def jvc(rec:RcT)(a b lim:Int)(wb wp:Bool)(d:Rw):Option PqR:=
 bnd (ct d a b) fun r4=>
 bif decide (r4.2=2)then
  bnd (cr a b d) fun r5=>
  ae (decide (r5.length=d.length))<|
  ae (bc .i64 (b-1))<|
  ae (bc .i64 (r4.1-a))<|
  ae (bc .i64 ((b-1)-(r4.1-a)))<|
  q6i rec a b lim wb wp ((b-1)-(r4.1-a)) (bif wb then(bif wp then decide ((1:Int)=1)else false)else false) r5
 else
  q6i rec a b lim wb wp r4.1 (bif wb then(bif wp then decide (r4.2=1)else false)else false) d
def jk6(rec:RcT)(a b lim:Int)(wb wp:Bool)(d:Rw):Option PqR:=
 ae (bc .i64 (b-a))<|
 bif decide ((b-a)≤12)then
  bnd (dy a b d) fun r1=>
  ae (decide (r1.length=d.length))<|
  some (.ret r1)
 else
  bif decide (lim=0)then
   bnd (fo a b d) fun r2=>
   ae (decide (r2.length=d.length))<|
   some (.ret r2)
  else
   bif (!wb)then
    bnd (dv a b d) fun r3=>
    ae (decide (r3.length=d.length))<|
    ae (bc .i64 (lim-1))<|
    jvc rec a b (lim-1) wb wp r3
   else
    jvc rec a b lim wb wp d
theorem j36(rec:RcT)(a b lim:Int)(wb wp:Bool)(d:Rw):
  gv rec a b lim wb wp d (fun a' =>some (.next a')) (fun e=>some (.done e)) (fun r=>some (.ret r))=jk6 rec a b lim wb wp d:=by
 unfold gv jk6 jvc q6i;cases wb<;>cases wp<;>rfl
def jti(a b:Nat)(d:Rw):PqR→Prop
 | .ret d' =>Sort.PermIn a b d.toArray d'.toArray∧Sort.SortedIn em a b d'.toArray
 | .done _=>False
 | .next s=>∃a' b' l' :Nat,s.1=(a' :Int)∧s.2.1=(b' :Int)∧s.2.2.1=(l' :Int)∧l' ≤1000∧a' ≤b' ∧b' ≤d.length∧b' -a' <b-a∧s.2.2.2.2.2.length=d.length∧Sh s.2.2.2.2.2∧Sort.Below em a' b' s.2.2.2.2.2.toArray∧∀R:Array (List Int),Sort.PermIn a' b' s.2.2.2.2.2.toArray R→Sort.SortedIn em a' b' R→Sort.PermIn a b d.toArray R∧Sort.SortedIn em a b R
theorem jti.trans{a b:Nat}{d e:Rw}(hp:Sort.PermIn a b d.toArray e.toArray):∀{o:PqR},jti a b e o→jti a b d o
 | .ret _,h=>⟨Sort.permIn_trans _ _ _ a b hp h.1,h.2⟩
 | .done _,h=>h
 | .next _,⟨a',b',l',h1,h2,h3,h4,h5,h6,h7,h8,h9,h10,h11⟩=>by
  have:=qef hp;exact⟨a',b',l',h1,h2,h3,h4,h5,by omega,h7,by omega,h9,h10,fun R hR hs=>⟨Sort.permIn_trans _ _ _ a b hp (h11 R hR hs).1,(h11 R hR hs).2⟩⟩
def jx9(rec:RcT)(N:Nat):Prop:=∀(a b l:Nat) (d:Rw),Sh d→a≤b→b≤d.length→d.length<4096→l≤1000→b-a<N→Sort.Below em a b d.toArray→
 ∃d',rec (((),(a:Int),(b:Int),(l:Int),(()),()),(d,()))=some d' ∧Sort.PermIn a b d.toArray d'.toArray∧Sort.SortedIn em a b d'.toArray
section
variable (rec : RcT) (N : Nat) (hrec : jx9 rec N) (a b l : Nat) (hl1 : l ≤ 1000) (hab : a < b) (hN : b - a ≤ N)
include hrec hl1 hab hN
theorem zhg(d:Rw)(hd:Sh d)(hb:b≤d.length)(hl:d.length<4096)(hB:Sort.Below em a b d.toArray)(p:Nat)(hp1:a≤p)(hp2:p<b):
  ∃e,ag rec (a:Int) (b:Int) (l:Int) ((b:Int)-(a:Int)) (p:Int) d=some (.inl e)∧jti a b d (.next (e.1,e.2.1,(l:Int),e.2.2.1,e.2.2.2.1,e.2.2.2.2)):=by
 have e1:=zhj a d hd (by omega) (by omega) b p hab hb hp2;obtain⟨_,_,hperm,_,_⟩:=Sort.partition_holds em quc d.toArray a b p hp1 hp2 (by simpa using hb);rcases hx:Sort.partition em d.toArray a b p with⟨mid,ap,d4⟩
 obtain⟨h1,h2,hsz,hB1,hB2,hL,hR⟩:=Sort.round_part quc (Sort.partition_holds em) hp1 hp2 (by simpa using hb) hB hx;rw[hx]at e1 hperm;simp only[]at e1 hperm;have hperm:Sort.PermIn a b d.toArray d4.toList.toArray:=by rw[Array.toArray_toList];exact hperm
 have hs4:=qw7 hd hb hperm;have hl4:=qef hperm;have hq:Int.tdiv ((b:Int)-(a:Int)) 8=(((b-a)/8:Nat):Int):=by
  rw[show(b:Int)-(a:Int)=((b-a:Nat):Int) by omega,Int.tdiv_eq_ediv_of_nonneg (by omega)];rfl
 unfold ag;by_cases hc:(mid:Int)-(a:Int)<(b:Int)-(mid:Int)
 ·obtain⟨L,eL,pL,sL⟩:=hrec a mid l d4.toList hs4 h1 (by omega) (by omega) hl1 (by omega) (by rw[Array.toArray_toList];exact hB1);have pL' :=pL;rw[Array.toArray_toList]at pL';obtain⟨q1,q2⟩:=hL L.toArray pL' sL;have hLl:=qef pL;have hLs:=qw7 hs4 (by omega) pL;refine⟨(((mid+1:Nat):Int),(b:Int),decide ((((b-a)/8:Nat):Int)≤(mid:Int)-(a:Int)),ap,L),?_,⟨mid+1,b,l,rfl,rfl,rfl,hl1,by omega,hb,by omega,hLl.trans hl4,hLs,q1,q2⟩⟩;simp only[gz,e1,ao,hq,hl4,eL,hLl];simp(disch:=omega)only[rs];rw[ar];rfl
 ·obtain⟨L,eL,pL,sL⟩:=hrec (mid+1) b l d4.toList hs4 (by omega) (by omega) (by omega) hl1 (by omega) (by rw[Array.toArray_toList];exact hB2);have pL' :=pL;rw[Array.toArray_toList]at pL';obtain⟨q1,q2⟩:=hR L.toArray pL' sL;have hLl:=qef pL;have hLs:=qw7 hs4 (by omega) pL;refine⟨((a:Int),(mid:Int),decide ((((b-a)/8:Nat):Int)≤(b:Int)-(mid:Int)),ap,L),?_,⟨a,mid,l,rfl,rfl,rfl,hl1,h1,by omega,by omega,hLl.trans hl4,hLs,q1,q2⟩⟩;simp only[gz,e1,ao,hq,hl4,ar,eL,hLl];simp(disch:=omega)only[rs];rfl
theorem jy8(wb wp:Bool)(d:Rw)(hd:Sh d)(hb:b≤d.length)(hl:d.length<4096)(hB:Sort.Below em a b d.toArray)(p:Nat)(hp1:a≤p)(hp2:p<b):
  ∃o,q6i rec (a:Int) (b:Int) (l:Int) wb wp (p:Int) false d=some o∧jti a b d o:=by
 obtain⟨e,he,hg⟩:=zhg rec N hrec a b l hl1 hab hN d hd hb hl hB p hp1 hp2;have h0:az rec (a:Int) (b:Int) (l:Int) wb wp ((b:Int)-(a:Int)) (p:Int) false d=some (.inl d):=rfl;unfold q6i;rw[h0,ao,i6];by_cases ha:0<a
 ·obtain⟨a,rfl⟩:∃q,a=q+1:=⟨a-1,by omega⟩;have e3:((a+1:Nat):Int)-1=(a:Int):=by omega
  obtain⟨c1,c2⟩:=qkr hd a p;cases hlt:em (d.getD a []) (d.getD p [])with
  |false=>
   have e2:=zhe (a+1) d hd (by omega) (by omega) b p hab hb hp2;rcases hx:Sort.partitionEqual em d.toArray (a+1) b p with⟨mid,d4⟩
   obtain⟨h1,h2,hsz,hB2,hR⟩:=Sort.round_eq quc (Sort.partitionEqual_holds em) ha hp1 hp2 (by simpa using hb) hB (by rw[Nat.add_sub_cancel,nt,nt];exact hlt) hx;rw[hx]at e2;simp only[]at e2;have hl4:d4.toList.length=d.length:=by simpa using hsz
   have hge:∀i,a+1≤i→i<b→em d.toArray[i]! d.toArray[p]! =false:=fun i hi hi' =>by
    rcases hB with h0|hB
    ·omega
    ·exact quc.ntrans _ _ _ (hB i hi hi') (by rw[Nat.add_sub_cancel,nt,nt];exact hlt)
   obtain⟨_,_,hperm,_,_⟩:=Sort.partitionEqual_holds em quc d.toArray (a+1) b p hp1 hp2 (by simpa using hb) hge;rw[hx]at hperm;simp only[]at hperm;have hperm:Sort.PermIn (a+1) b d.toArray d4.toList.toArray:=by rw[Array.toArray_toList];exact hperm
   have hs4:=qw7 hd hb hperm;refine⟨.next ((mid:Int),(b:Int),(l:Int),wb,wp,d4.toList),?_,⟨mid,b,l,rfl,rfl,rfl,hl1,h2,hb,by omega,hl4,hs4,by show Sort.Below em mid b d4.toList.toArray;rw[Array.toArray_toList];exact hB2,by show∀R,Sort.PermIn mid b d4.toList.toArray R→_;rw[Array.toArray_toList];exact hR⟩⟩;rw[hlt]at c2;simp only[e3,Int.toNat_natCast,c1,ao,c2,e2,hl4];simp(disch:=omega)only[rs];rfl
  |true=>
   refine⟨_,?_,hg⟩;rw[hlt]at c2;simp only[e3,Int.toNat_natCast,c1,ao,c2,he,i6];simp(disch:=omega)only[rs]
 ·refine⟨_,?_,hg⟩;simp only[he,ao,i6];simp(disch:=omega)only[rs]
theorem jy9(wb wp fl:Bool)(d:Rw)(hd:Sh d)(hb:b≤d.length)(hl:d.length<4096)(hB:Sort.Below em a b d.toArray)(p:Nat)(hp1:a≤p)(hp2:p<b):
  ∃o,q6i rec (a:Int) (b:Int) (l:Int) wb wp (p:Int) fl d=some o∧jti a b d o:=by
 cases fl with
 |false=>exact jy8 rec N hrec a b l hl1 hab hN wb wp d hd hb hl hB p hp1 hp2
 |true=>
  have e1:=zhh a b d hd hab hb (by omega);obtain⟨q1,q2⟩:=Sort.partialInsertionSort_holds quc d.toArray a b hab (by simpa using hb) hB;rcases hx:Sort.partialInsertionSort em d.toArray a b with⟨D,f⟩
  rw[hx]at e1 q1 q2;simp only[]at e1 q1 q2;have q1' :Sort.PermIn a b d.toArray D.toList.toArray:=by rw[Array.toArray_toList];exact q1
  have hl4:=qef q1';have hs4:=qw7 hd hb q1';have e2:az rec (a:Int) (b:Int) (l:Int) wb wp ((b:Int)-(a:Int)) (p:Int) true d=bif f then some (.inr D.toList)else some (.inl D.toList):=by
   unfold az me;rw[e1,ao];simp only[cond_true];rw[n9 (decide_eq_true hl4)]
  cases f with
  |true=>
   refine⟨.ret D.toList,?_,q1',by rw[Array.toArray_toList];exact q2 rfl⟩;unfold q6i;rw[e2];rfl
  |false=>
   obtain⟨o,ho,hg⟩:=jy8 rec N hrec a b l hl1 hab hN wb wp D.toList hs4 (by omega) (by omega) (by rw[Array.toArray_toList];exact hB.perm (by simpa using hb) q1) p hp1 hp2;refine⟨o,?_,hg.trans q1'⟩;rw[←ho];unfold q6i;rw[e2];rfl
theorem j35(wb wp:Bool)(d:Rw)(hd:Sh d)(hb:b≤d.length)(hl:d.length<4096)(hB:Sort.Below em a b d.toArray):
  ∃o,jvc rec (a:Int) (b:Int) (l:Int) wb wp d=some o∧jti a b d o:=by
 obtain⟨p,h,e1,hp1,hp2⟩:=zex d hd a b hab hb (by omega);unfold jvc;rw[e1,ao];simp only[];by_cases h2:h=2
 ·rw[decide_eq_true h2,cond_true];have e2:=jxo a b d hd hab hb (by omega);have q1:=Sort.reverseRange_holds d.toArray a b (by omega) (by simpa using hb);generalize Sort.reverseRange d.toArray a b=D at e2 q1;have q1' :Sort.PermIn a b d.toArray D.toList.toArray:=by rw[Array.toArray_toList];exact q1
  have hl4:=qef q1';have hs4:=qw7 hd hb q1';have k1:((b:Int)-1)-((p:Int)-(a:Int))=((b-1-(p-a):Nat):Int):=by omega
  obtain⟨o,ho,hg⟩:=jy9 rec N hrec a b l hl1 hab hN wb wp (bif wb then(bif wp then decide ((1:Int)=1)else false)else false) D.toList hs4 (by omega) (by omega) (by rw[Array.toArray_toList];exact hB.perm (by simpa using hb) q1) (b-1-(p-a)) (by omega) (by omega);refine⟨o,?_,hg.trans q1'⟩;rw[e2,ao,n9 (decide_eq_true hl4),lz (by omega) (by omega),lz (by omega) (by omega),lz (by omega) (by omega),k1];exact ho
 ·rw[decide_eq_false h2,cond_false];exact jy9 rec N hrec a b l hl1 hab hN wb wp _ d hd hb hl hB p hp1 hp2
end
theorem j6h(rec:RcT)(N:Nat)(hrec:jx9 rec N)(a b l:Nat)(hl1:l≤1000)(hab:a≤b)(hN:b-a≤N)(wb wp:Bool)(d:Rw)(hd:Sh d)(hb:b≤d.length)(hl:d.length<4096)(hB:Sort.Below em a b d.toArray):
  ∃o,jk6 rec (a:Int) (b:Int) (l:Int) wb wp d=some o∧jti a b d o:=by
 unfold jk6;rw[lz (by omega) (by omega)];by_cases h12:(b:Int)-(a:Int)≤12
 ·rw[decide_eq_true h12,cond_true];have e1:=zdq a b d hd hab hb (by omega);obtain⟨q1,q2⟩:=Sort.insertionSort_holds quc d.toArray a b hab (by simpa using hb);generalize Sort.insertionSort em d.toArray a b=D at e1 q1 q2;have q1' :Sort.PermIn a b d.toArray D.toList.toArray:=by rw[Array.toArray_toList];exact q1
  refine⟨.ret D.toList,?_,q1',by rw[Array.toArray_toList];exact q2⟩;rw[e1,ao,n9 (decide_eq_true (qef q1'))]
 ·rw[decide_eq_false h12,cond_false];by_cases h0:l=0
  ·rw[decide_eq_true (show(l:Int)=0 by omega),cond_true];have e1:=j53 a b d hd hab hb (by omega);obtain⟨q1,q2⟩:=Sort.heapSort_holds quc d.toArray a b hab (by simpa using hb);generalize Sort.heapSort em d.toArray a b=D at e1 q1 q2;have q1' :Sort.PermIn a b d.toArray D.toList.toArray:=by rw[Array.toArray_toList];exact q1
   refine⟨.ret D.toList,?_,q1',by rw[Array.toArray_toList];exact q2⟩;rw[e1,ao,n9 (decide_eq_true (qef q1'))]
  ·rw[decide_eq_false (show¬(l:Int)=0 by omega),cond_false];cases wb with
   |true=>exact j35 rec N hrec a b l hl1 (by omega) hN true wp d hd hb hl hB
   |false=>
    obtain⟨D,e1,q1⟩:=zeu a b d hd hab hb hl;have hl4:=qef q1;have hs4:=qw7 hd hb q1;obtain⟨o,ho,hg⟩:=j35 rec N hrec a b (l-1) (by omega) (by omega) hN false wp D hs4 (by omega) (by omega) (hB.perm (by simpa using hb) q1);refine⟨o,?_,hg.trans q1⟩;rw[←ho,show(l:Int)-1=((l-1:Nat):Int) by omega];show bnd _ _=_;rw[e1,ao,n9 (decide_eq_true hl4),lz (by omega) (by omega)]
theorem zko(rec:RcT)(N:Nat)(hrec:jx9 rec N)(a b l:Nat)(hl1:l≤1000)(hab:a≤b)(hN:b-a≤N)(d:Rw)(hd:Sh d)(hb:b≤d.length)(hl:d.length<4096)(hB:Sort.Below em a b d.toArray):
  ∃d',dz rec (a:Int) (b:Int) (l:Int) d=some d' ∧Sort.PermIn a b d.toArray d'.toArray∧Sort.SortedIn em a b d'.toArray:=by
 have hloop:∃o,we rec ((a:Int),(b:Int),(l:Int),true,true,d)=some o∧(match o with| .inl _=>False| .inr d' =>Sort.PermIn a b d.toArray d'.toArray∧Sort.SortedIn em a b d'.toArray):=by
  refine p6 (fun(st:PqS)=>∃a' b' l' :Nat,st.1=(a' :Int)∧st.2.1=(b' :Int)∧st.2.2.1=(l' :Int)∧l' ≤1000∧a' ≤b' ∧b' ≤d.length∧b' -a' ≤b-a∧st.2.2.2.2.2.length=d.length∧Sh st.2.2.2.2.2∧Sort.Below em a' b' st.2.2.2.2.2.toArray∧∀R:Array (List Int),Sort.PermIn a' b' st.2.2.2.2.2.toArray R→Sort.SortedIn em a' b' R→Sort.PermIn a b d.toArray R∧Sort.SortedIn em a b R) (fun st=>(st.2.1-st.1).toNat) (fun(o:Unit⊕Rw)=>match o with| .inl _=>False| .inr d' =>Sort.PermIn a b d.toArray d'.toArray∧Sort.SortedIn em a b d'.toArray) _ ⟨a,b,l,rfl,rfl,rfl,hl1,hab,hb,Nat.le_refl _,rfl,hd,hB,fun R h1 h2=>⟨h1,h2⟩⟩ (by show((b:Int)-(a:Int)).toNat<many;unfold many;omega) ?_;rintro⟨_,_,_,wb,wp,c⟩ ⟨a',b',l',rfl,rfl,rfl,k1,k2,k3,k4,k5,k6,k7,k8⟩;have k5:c.length=d.length:=k5;have k6:Sh c:=k6;have k7:Sort.Below em a' b' c.toArray:=k7;have k8:∀R:Array (List Int),Sort.PermIn a' b' c.toArray R→Sort.SortedIn em a' b' R→Sort.PermIn a b d.toArray R∧Sort.SortedIn em a b R:=k8;obtain⟨o,ho,hg⟩:=j6h rec N hrec a' b' l' k1 k2 (by omega) wb wp c k6 (by omega) (by omega) k7;refine⟨o,(j36 rec _ _ _ wb wp c).trans ho,?_⟩;cases o with
  |done _=>exact hg.elim
  |ret R=>exact k8 R.toArray hg.1 hg.2
  |next s=>
   obtain⟨_,_,_,wb',wp',c'⟩:=s;obtain⟨a2,b2,l2,e1,e2,e3,g1,g2,g3,g4,g5,g6,g7,g8⟩:=hg;obtain rfl:_=(a2:Int):=e1;obtain rfl:_=(b2:Int):=e2;obtain rfl:_=(l2:Int):=e3;have g5:c'.length=c.length:=g5;refine⟨⟨a2,b2,l2,rfl,rfl,rfl,g1,g2,by omega,by omega,g5.trans k5,g6,g7,fun R h1 h2=>k8 R (g8 R h1 h2).1 (g8 R h1 h2).2⟩,?_⟩;show((b2:Int)-(a2:Int)).toNat<((b' :Int)-(a' :Int)).toNat;omega
 obtain⟨o,ho,hp⟩:=hloop;unfold dz;rw[ho,ao];cases o with
 |inl _=>cases hp
 |inr d' =>exact⟨d',rfl,hp⟩
theorem zhf(a b l:Nat)(hl1:l≤1000)(hab:a≤b)(d:Rw)(hd:Sh d)(hb:b≤d.length)(hl:d.length<4096)(hB:Sort.Below em a b d.toArray):
  ∃d',o8 (a:Int) (b:Int) (l:Int) d=some d' ∧Sort.PermIn a b d.toArray d'.toArray∧Sort.SortedIn em a b d'.toArray:=by
 have key:∀n,∀(F:RcT→RcT),(F=fun(rec:RcT) a=>dz rec a.1.2.1 a.1.2.2.1 a.1.2.2.2.1 a.2.1)→jx9 (jxk F n) n:=by
  intro n F hF;subst hF
  induction n with
  |zero=>
   intro a b l d _ _ _ _ _ h;omega
  |succ n ih=>
   intro a b l d h1 h2 h3 h4 h5 h6 h7;rw[j1g];exact zko _ n ih a b l h5 h2 (by omega) d h1 h3 h4 h7
 exact key many _ rfl a b l d hd hab hb hl hl1 (by unfold many;omega) hB
def srt(d:Rw):Rw:=d.mergeSort (fun x y=> !em y x)
theorem j6x(d:Rw)(hd:Sh d)(hl:d.length<4096):ll d=some (srt d):=by
 obtain⟨L,e1,hL,_⟩:=j3h d.length hl;obtain⟨d',e2,p,s⟩:=zhf 0 d.length L (by omega) (Nat.zero_le _) d hd (Nat.le_refl _) hl (Or.inl rfl);have hu:d' =srt d:=Sort.sorted_unique_holds quc jsd d.toArray d'.toArray p s;have e2:o8 0 _ _ _=_:=e2;unfold ll;rw[e1,ao,e2,ao,n9 (decide_eq_true (qef p)),hu]
end Go.Proofs.YtclbndfjhjladaaGreat
