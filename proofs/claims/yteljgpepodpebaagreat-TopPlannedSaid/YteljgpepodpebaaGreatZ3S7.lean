/-
  Rotas: every box is proved.
-/
import Derived.Test.YteljgpepodpebaaGreatZ3S6
set_option linter.all false
namespace Go.Proofs.YteljgpepodpebaaGreat
open Go.K Go.M
theorem qrf{f g:Nat→Int}:∀{n:Nat},(∀k,k<n→f k=g k)→vol f n=vol g n
 |0,_=>rfl
 |n+1,h=>by
  show vol f n*f n=vol g n*g n;rw[qrf fun k hk=>h k (by omega),h n (by omega)]
theorem ja2{f f1 f2:Nat→Int}{s:Nat}(h1:∀j,j≠s→f1 j=f j∧f2 j=f j)(h2:f1 s+f2 s=f s):∀{n:Nat},s<n→vol f1 n+vol f2 n=vol f n
 |0,h=>by omega
 |n+1,h=>by
  show vol f1 n*f1 n+vol f2 n*f2 n=vol f n*f n;by_cases e:s=n
  ·subst e;rw[qrf (f:=f1) (g:=f) fun k hk=>(h1 k (by omega)).1,qrf (f:=f2) (g:=f) fun k hk=>(h1 k (by omega)).2,←Int.mul_add,h2]
  ·rw[(h1 n fun h=>e h.symm).1,(h1 n fun h=>e h.symm).2,←Int.add_mul,ja2 h1 h2 (by omega)]
def qht(lo hi:List Int)(n:Nat):Int:=vol (fun i=>hi.getD i 0-lo.getD i 0+1) n
theorem qis{l:List ae}{lo hi:List Int}(hb:Bx l lo hi):1≤qht lo hi l.length:=qxk fun k hk=>by have:=hb.b1 k hk;omega
theorem jgl{l:List ae}{lo hi:List Int}(hb:Bx l lo hi){s:Nat}(hs:s<l.length)(a:Int):qht lo (hi.set s a) l.length+qht (lo.set s (a+1)) hi l.length=qht lo hi l.length:=by
 have q1:=hb.ll;have q2:=hb.hl;refine ja2 (s:=s) (fun j hj=>⟨?_,?_⟩) ?_ hs
 ·rw[u7 (by omega),if_neg hj]
 ·rw[u7 (by omega),if_neg hj]
 ·rw[u7 (by omega),u7 (by omega),if_pos rfl,if_pos rfl];omega
def wY(D:Nat)(w:Nat→Int):List ab:=be D fun t=>(w t,1,())
theorem jko{D:Nat}{w:Nat→Int}{t:Nat}(ht:t<D):(wY D w).getD t ab.z=(w t,1,()):=em ht
theorem j6h{D:Nat}{w:Nat→Int}(hw:∀t,t<D→0≤w t∧w t≤100001):Whole (wY D w)∧YG D (wY D w):=by
 have hl:(wY D w).length=D:=db _ _;refine⟨fun t ht=>⟨w t,jko (by omega),hw t (by omega)⟩,hl,fun t ht=> ?_⟩;have h:=hw t ht;have e:yv (wY D w) t=(w t:Rat):=by show fv ((wY D w).getD t ab.z)=_;rw[jko ht,nk]
 refine⟨by rw[jko ht];exact nu (by omega) (by omega),?_⟩;rw[e];exact Rat.intCast_nonneg.2 h.1
theorem jl5{d:List Int}{l:List ae}{lo hi:List Int}(hp:∀i,i<l.length→lo.getD i 0=hi.getD i 0)(y:List ab):qrj d l lo hi y=(fw l hi:Rat)+d4 d.length (fun t=>((d.getD t 0:Rat)-(za l hi t:Rat))*yv y t):=by
 have h1:d4 l.length (fun i=>prR d.length l y i*(nvI d.length l lo hi y i:Rat))=d4 l.length (fun i=>prR d.length l y i*(hi.getD i 0:Rat)):=cp fun i hi' =>by
  have:nvI d.length l lo hi y i=hi.getD i 0:=by
   unfold nvI;rw[hp i hi'];split<;>rfl
  rw[this]
 have h2:d4 d.length (fun t=>((d.getD t 0:Rat)-(za l hi t:Rat))*yv y t)=d4 d.length (fun t=>(d.getD t 0:Rat)*yv y t+(-1)*((za l hi t:Rat)*yv y t)):=cp fun t _=>by grind
 unfold qrj;rw[h1,jad,h2,ql2,qho]
 grind
theorem jml{d:List Int}{l:List ae}(h:Good d l)(h6:d.length≤6)(h5:l.length≤5){lo hi:List Int}(hb:Bx l lo hi){cost:Int}(hc:0≤cost∧cost≤100000)(hbest:∀c,Cnt l c→Cvr d l c→cost≤fw l c)(left:Int):
  ∃y,nn (d,l,cost,left,()) (lo,hi,())=some y∧((∀i,i<l.length→lo.getD i 0=hi.getD i 0)→li d l (lo,hi,()) y cost=some true):=by
 have q1:=hb.ll;have q2:=hb.hl;have hcn:Cnt l hi:=⟨q2,fun i hi' =>⟨Int.le_trans (hb.b0 i hi') (hb.b1 i hi'),hb.b2 i hi'⟩⟩;have hlo2:∀i,i<l.length→0≤lo.getD i 0∧lo.getD i 0≤20:=fun i hi' =>⟨hb.b0 i hi',Int.le_trans (hb.b1 i hi') (hcn.c20 h i hi').2⟩
 have hcost:=q3e h (hcn.c20 h) (Nat.le_refl _);have hcost:0≤fw l hi∧fw l hi≤l.length*20000:=hcost;have fin:∀w:Nat→Int,(∀t,t<d.length→0≤w t∧w t≤100001)→((cost-1:Int):Rat)<(fw l hi:Rat)+d4 d.length (fun t=>((d.getD t 0:Rat)-(za l hi t:Rat))*(w t:Rat))→(∀i,i<l.length→lo.getD i 0=hi.getD i 0)→li d l (lo,hi,()) (wY d.length w) cost=some true:=fun w hw hv hp=>by
  obtain⟨hw1,hw2⟩:=j6h hw;obtain⟨b,e1,-,e2⟩:=qjb h (y:=wY d.length w) q1 q2 (cost:=cost) (by omega);have e3:=e2 hw2 (jqr h h6 h5 hw2.1 hw1 q1 q2 hlo2 (hcn.c20 h)) (by
   rw[jl5 hp];have e4:d4 d.length (fun t=>((d.getD t 0:Rat)-(za l hi t:Rat))*yv (wY d.length w) t)=d4 d.length (fun t=>((d.getD t 0:Rat)-(za l hi t:Rat))*(w t:Rat)):=cp fun t ht=>by
    have e:yv (wY d.length w) t=(w t:Rat):=by show fv ((wY d.length w).getD t ab.z)=_;rw[jko ht,nk]
    rw[e]
   rw[e4];exact hv)
  rw[e1,e3]
 obtain⟨r,hr,hr2⟩:=qfx h (hcn.c20 h) (Nat.le_of_eq q2.symm);have hrep:=jyi (n:=d.length) (by omega);unfold nn bd;dsimp only;rw[af];have hx:∀{m:Option (List ab)},ai (ix 0 1) m=m:=xI;rw[hx,hrep,af,hx,hx,hr,af];rcases hr2 with⟨rfl,hcv⟩|⟨k,hk,rfl,hsh⟩
 ·rw[xF,qw8];refine⟨_,rfl,fin (fun _=>0) (fun t _=>⟨by omega,by omega⟩) ?_⟩;have h1:=hbest hi hcn hcv;rw[qdc (n:=d.length) fun t _=>by show _*((0:Int):Rat)=0;grind];have h2:((cost-1:Int):Rat)<(fw l hi:Rat):=Rat.intCast_lt_intCast.2 (by omega)
  grind
 ·rw[xE,hx,xR,af,ao (by omega) (by rw[List.length_replicate];omega),ao (by omega) (by rw[List.length_replicate];omega),Int.toNat_natCast,qw8,q21];have e:(be d.length fun v=>if v=k then((cost+1,1,()):ab)else(0,1,()))=wY d.length (fun t=>if t=k then cost+1 else 0):=ua fun t _=>by
   by_cases e:t=k
   ·rw[if_pos e];show _=((if t=k then cost+1 else 0,1,()):ab);rw[if_pos e]
   ·rw[if_neg e];show _=((if t=k then cost+1 else 0,1,()):ab);rw[if_neg e]
  rw[e];refine⟨_,rfl,fin (fun t=>if t=k then cost+1 else 0) (fun t _=>by split<;>omega) ?_⟩;rw[qhp (n:=d.length) (k:=k) hk fun t _ ht=>by rw[if_neg ht];show _*((0:Int):Rat)=0;grind,if_pos rfl];have h2:(((d.getD k 0:Int):Rat)-(za l hi k:Rat))*((cost+1:Int):Rat)=(((d.getD k 0-za l hi k)*(cost+1):Int):Rat):=by rw[Rat.intCast_mul,Rat.intCast_sub]
  rw[h2,←Rat.intCast_add];refine Rat.intCast_lt_intCast.2 ?_;have h3:1*(cost+1)≤(d.getD k 0-za l hi k)*(cost+1):=Int.mul_le_mul_of_nonneg_right (by omega) (by omega);omega
theorem jsa{rec:(Unit×au×Unit)×(((List Int)×(List ae)×Int×Int×Unit)×Unit)→Option (aw×Bool×(List Int)×(List ae)×Int×Int)}{l:List ae}(hl:l.length≤12)(p00:List Int)(p01:List ae)(p02 p03:Int){lo hi:List Int}(hb:Bx l lo hi)(h20:∀i,i<l.length→hi.getD i 0≤20)(v0 v1:Int)(v2:List aw)(v3:List ab):
  ∃w:Int,qc1 rec (l.length:Int) p00 p01 p02 p03 lo hi v0 v1 v2 v3 (-1,0)=some (.inl w)∧((w= -1∧∀i,i<l.length→lo.getD i 0=hi.getD i 0)∨∃s:Nat,w=s∧s<l.length∧lo.getD s 0<hi.getD s 0):=by
 have q1:=hb.ll;have q2:=hb.hl;obtain⟨o,ho,w,rfl,hp⟩:=fy (step:=fun a:Int×Int=>me (R:=LR (Int×Int) Int (aw×Bool×(List Int)×(List ae)×Int×Int)) rec (l.length:Int) p00 p01 p02 p03 lo hi v0 v1 v2 v3 a.1 a.2 (fun a' =>some (.next a')) (fun e=>some (.done e)) (fun r=>some (.ret r)))
  (fun a=>∃k:Nat,a.2=(k:Int)∧k≤l.length∧((a.1= -1∧∀i,i<k→lo.getD i 0=hi.getD i 0)∨∃s:Nat,a.1=s∧s<l.length∧lo.getD s 0<hi.getD s 0)) (fun a=>l.length-a.2.toNat)
  (fun o=>∃w,o= .inl w∧((w= -1∧∀i,i<l.length→lo.getD i 0=hi.getD i 0)∨∃s:Nat,w=s∧s<l.length∧lo.getD s 0<hi.getD s 0)) (-1,0) ⟨0,rfl,by omega, .inl ⟨rfl,fun i hi=>by omega⟩⟩ (xZ (by omega)) (by
   rintro⟨w,a⟩ ⟨k,rfl,hk,hw⟩;dsimp only at hw;unfold me;dsimp only;by_cases hlt:k<l.length
   ·have b0:=hb.b0 k hlt;have b1:=hb.b1 k hlt;have b2:=h20 k hlt;rw[xL,xI,xI,xI,xI,Int.toNat_natCast,xR];by_cases c1:0<hi.getD k 0-lo.getD k 0
    ·rw[bi c1];rcases hw with⟨rfl,hw⟩|⟨s,rfl,hs,hw⟩
     ·rw[xL,xR,am];refine⟨_,rfl,⟨k+1,rfl,by omega, .inr ⟨k,rfl,hlt,by omega⟩⟩,?_⟩;exact xD (by omega)
     ·have d0:=hb.b0 s hs;have d1:=hb.b1 s hs;have d2:=h20 s hs;rw[xN,xI,xI,xI,xI,Int.toNat_natCast,xR];by_cases c2:hi.getD s 0-lo.getD s 0<hi.getD k 0-lo.getD k 0
      ·rw[bi c2,xR,am];refine⟨_,rfl,⟨k+1,rfl,by omega, .inr ⟨k,rfl,hlt,by omega⟩⟩,?_⟩;exact xD (by omega)
      ·rw[xN,xR,am];refine⟨_,rfl,⟨k+1,rfl,by omega, .inr ⟨s,rfl,hs,hw⟩⟩,?_⟩;exact xD (by omega)
    ·rw[xN,xR,am];refine⟨_,rfl,⟨k+1,rfl,by omega,?_⟩,?_⟩
     ·rcases hw with⟨rfl,hw⟩|hw
      ·refine .inl ⟨rfl,fun i hi' => ?_⟩;by_cases e:i=k
       ·rw[e];omega
       ·exact hw i (by omega)
      ·exact .inr hw
     ·exact xD (by omega)
   ·rw[xN];rcases hw with⟨rfl,hw⟩|hw
    ·exact⟨_,rfl,-1,rfl, .inl ⟨rfl,fun i hi' =>hw i (by omega)⟩⟩
    ·exact⟨_,rfl,w,rfl, .inr hw⟩)
 exact⟨w,ho,hp⟩
abbrev PA:Type:=(Unit×au×Unit)×(((List Int)×(List ae)×Int×Int×Unit)×Unit)
abbrev PO:Type:=aw×Bool×(List Int)×(List ae)×Int×Int
def j7e(d:List Int)(l:List ae)(lo hi:List Int)(cost left:Int):PA:=(((),(lo,hi,()),()),((d,l,cost,left,()),()))
def POK(d:List Int)(l:List ae)(rec:PA→Option PO)(lo hi:List Int)(cost left:Int):Prop:=
 ∃t m,rec (j7e d l lo hi cost left)=some (t,true,d,l,cost,left-(m:Nat))∧TOK d l cost lo hi t m∧(m:Int)≤2*qht lo hi l.length-1
def jin(d:List Int)(l:List ae)(cost:Int):Prop:=∀lo hi left,Bx l lo hi→∃ok y,kd (d,l,cost,left,()) (lo,hi,())=some (ok,y)
theorem jph{d:List Int}{l:List ae}(h:Good d l)(h6:d.length≤6)(h5:l.length≤5){cost:Int}(hc:0≤cost∧cost≤100000)(hbest:∀c,Cnt l c→Cvr d l c→cost≤fw l c){rec:PA→Option PO}{lo hi:List Int}(hb:Bx l lo hi){left:Int}(h0:2*qht lo hi l.length-1≤left)(h20:left≤20000)
  (hrec:∀lo' hi' left',Bx l lo' hi' →qht lo' hi' l.length<qht lo hi l.length→2*qht lo' hi' l.length-1≤left' →left' ≤20000→POK d l rec lo' hi' cost left') (v0 v1:Int) (v2:List aw) (v3:List ab):
  ∃t m,mz rec d l cost (left-1) lo hi v0 v1 v2 v3=some (.inr (t,true,d,l,cost,left-(m:Nat)))∧TOK d l cost lo hi t m∧(m:Int)≤2*qht lo hi l.length-1:=by
 have q1:=hb.ll;have q2:=hb.hl;have hv:=qis hb;have hh20:∀i,i<l.length→hi.getD i 0≤20:=fun i hi' =>Int.le_trans (hb.b2 i hi') (h.sh i hi').m1
 obtain⟨y,e1,e2⟩:=jml h h6 h5 hb hc hbest (left-1);obtain⟨b,e3,-,-⟩:=qjb h (y:=y) q1 q2 (cost:=cost) (by omega);unfold mz qf;rw[e1,af,e3,af];cases b with
 |true=>exact⟨_,1,rfl, .leaf lo hi y e3,by omega⟩
 |false=>
  obtain⟨w,e4,hw⟩:=jsa (rec:=rec) h.l1 d l cost (left-1) hb hh20 v0 v1 v2 v3;rw[cond_false,e4,af,g9];rcases hw with⟨rfl,hw⟩|⟨s,rfl,hs,hw⟩
  ·rw[e2 hw]at e3;cases e3
  ·have p0:=hb.b0 s hs;have p2:=hh20 s hs;have ha:Int.tdiv (lo.getD s 0+hi.getD s 0) 2=(lo.getD s 0+hi.getD s 0)/2:=Int.tdiv_eq_ediv_of_nonneg (by omega);rw[xN,xI,xI,xI,xI,Int.toNat_natCast,ha,xR,y8 (by omega),xR,qya (by omega) (by omega) (by omega) (by omega) (by omega),af];generalize ha2:(lo.getD s 0+hi.getD s 0)/2=a;have b1:lo.getD s 0≤a:=by omega
   have b2:a<hi.getD s 0:=by omega
   have hbl:=hb.left hs b1 b2;have hbr:=hb.right hs b1 b2;have hv1:=qis hbl;have hv2:=qis hbr;have hvs:=jgl hb hs a;obtain⟨t1,m1,e5,e6,e7⟩:=hrec _ _ (left-1) hbl (by omega) (by omega) (by omega);obtain⟨t2,m2,e8,e9,e10⟩:=hrec _ _ (left-1-m1) hbr (by omega) (by omega) (by omega);have e5:rec (((),(lo,hi.set s a,()),()),((d,l,cost,left-1,()),()))=_:=e5;have e8:rec (((),(lo.set s (a+1),hi,()),()),((d,l,cost,left-1-m1,()),()))=_:=e8;dsimp only;rw[e5,af];simp only[Bool.not_true,cond_false];rw[e8,af];refine⟨_,m1+m2+1,?_, .node lo hi s a t1 t2 m1 m2 hb hs b1 b2 e6 e9,by omega⟩;rw[show left-((m1+m2+1:Nat):Int)=left-1-m1-m2 by omega];cases t1;cases t2;rfl
theorem jro{d:List Int}{l:List ae}(h:Good d l)(h6:d.length≤6)(h5:l.length≤5){cost:Int}(hc:0≤cost∧cost≤100000)(hbest:∀c,Cnt l c→Cvr d l c→cost≤fw l c)(hmul:jin d l cost){rec:PA→Option PO}{lo hi:List Int}(hb:Bx l lo hi){left:Int}(h0:2*qht lo hi l.length-1≤left)(h20:left≤20000)
  (hrec:∀lo' hi' left',Bx l lo' hi' →qht lo' hi' l.length<qht lo hi l.length→2*qht lo' hi' l.length-1≤left' →left' ≤20000→POK d l rec lo' hi' cost left'):
  ∃t m,i7 rec (lo,hi,()) d l cost left=some (t,true,d,l,cost,left-(m:Nat))∧TOK d l cost lo hi t m∧(m:Int)≤2*qht lo hi l.length-1:=by
 have q1:=hb.ll;have q2:=hb.hl;have hv:=qis hb;obtain⟨ok,y,e1⟩:=hmul lo hi (left-1) hb;obtain⟨b,e3,-,-⟩:=qjb h (y:=y) q1 q2 (cost:=cost) (by omega);obtain⟨t,m,e4,e5⟩:=jph h h6 h5 hc hbest hb h0 h20 hrec 0 0 [] [];unfold i7;rw[xR,xN,e1,af];cases ok with
 |true=>
  rw[cond_true,e3,af];cases b with
  |true=>exact⟨_,1,rfl, .leaf lo hi y e3,by omega⟩
  |false=>
   rw[cond_false,e4];exact⟨t,m,rfl,e5⟩
 |false=>
  rw[cond_false,e4];exact⟨t,m,rfl,e5⟩
abbrev jyg:(PA→Option PO)→PA→Option PO:=fun rec a=>i7 rec a.1.2.1 a.2.1.1 a.2.1.2.1 a.2.1.2.2.1 a.2.1.2.2.2.1
theorem jju{d:List Int}{l:List ae}(h:Good d l)(h6:d.length≤6)(h5:l.length≤5){cost:Int}(hc:0≤cost∧cost≤100000)(hbest:∀c,Cnt l c→Cvr d l c→cost≤fw l c)(hmul:jin d l cost):∀(f:Nat) (lo hi:List Int) (left:Int),Bx l lo hi→qht lo hi l.length≤f→2*qht lo hi l.length-1≤left→left≤20000→POK d l (qyl jyg f) lo hi cost left
 |0,lo,hi,left,hb,h1,_,_=>by have:=qis hb;omega
 |f+1,lo,hi,left,hb,h1,h0,h20=>by
  unfold POK;rw[qjd];exact jro (left:=left) h h6 h5 hc hbest hmul hb h0 h20 fun lo' hi' left' hb' (hlt:qht lo' hi' l.length<qht lo hi l.length) h1' h2' =>jju h h6 h5 hc hbest hmul f lo' hi' left' hb' (by omega) h1' h2'
theorem jpi{d:List Int}{l:List ae}(h:Good d l)(h6:d.length≤6)(h5:l.length≤5){cost:Int}(hc:0≤cost∧cost≤100000)(hbest:∀c,Cnt l c→Cvr d l c→cost≤fw l c)(hmul:jin d l cost){lo hi:List Int}(hb:Bx l lo hi)(hv:qht lo hi l.length≤200):
  ∃t left',qfu (lo,hi,()) d l cost 20000=some (t,true,d,l,cost,left')∧∃left2,qc3 d l (lo,hi,()) t cost 20000=some (true,left2):=by
 have hv0:=qis hb;have hm:=cr (n:=20000) (by omega);obtain⟨t,m,e1,e2,e3⟩:=jju h h6 h5 hc hbest hmul many lo hi 20000 hb (by omega) (by omega) (by omega);exact⟨t,_,e1,_,jaj h e2 many 20000 (by omega) (by omega) (by omega)⟩
end Go.Proofs.YteljgpepodpebaaGreat
