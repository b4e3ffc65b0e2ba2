/-
  Fractions: what the program's and the reference's operations return, by rational numbers.
-/
import Derived.Test.YteljgpepodpebaaGreatZ3Md
import Derived.Test.YteljgpepodpebaaGreatZ3KE
set_option linter.all false
namespace Go.Proofs.YteljgpepodpebaaGreat
open Go.K Go.M
def gF:Nat→Int→Int→Int
 |0,a,_=>a
 |n+1,a,b=>if b=0 then a else gF n b (Int.tmod a b)
def gI(a b:Int):Int:=gF (b.natAbs+1) a b
theorem q32{Rt:Type}{step:Int×Int→Option (LR (Int×Int) Int Rt)}(h:∀a b,step (a,b)=some (if b=0 then .done a else .next (b,Int.tmod a b))):∀(n:Nat) (a b:Int) (m:Nat),b.natAbs<n→n≤m→qrk step m (a,b)=some (.inl (gF n a b)):=by
 intro n
 induction n with
 |zero=>intro a b m hb;omega
 |succ n ih=>
  intro a b m hb hm;obtain⟨m,rfl⟩:∃q,m=q+1:=⟨m-1,by omega⟩;rw[ns,h,af];unfold gF;by_cases h0:b=0
  ·rw[if_pos h0,if_pos h0];rfl
  ·rw[if_neg h0,if_neg h0];have hlt:(Int.tmod a b).natAbs<b.natAbs:=by
    rw[Int.natAbs_tmod];exact Nat.mod_lt _ (by omega)
   exact ih b (Int.tmod a b) m (by omega) (by omega)
theorem jg7:∀(n:Nat) (a b:Int),b.natAbs<n→(gF n a b).natAbs=Nat.gcd a.natAbs b.natAbs
 |0,a,b,h=>by omega
 |n+1,a,b,h=>by
  unfold gF;split
  ·rename_i e;subst e;simp
  ·rename_i h0;have hlt:(Int.tmod a b).natAbs<b.natAbs:=by
    rw[Int.natAbs_tmod];exact Nat.mod_lt _ (by omega)
   rw[jg7 n b (Int.tmod a b) (by omega),Int.natAbs_tmod,Nat.gcd_comm a.natAbs,Nat.gcd_rec b.natAbs a.natAbs,Nat.gcd_comm]
theorem job:∀(n:Nat) (a b:Int),0≤a→0≤b→0≤gF n a b
 |0,a,b,ha,_=>ha
 |n+1,a,b,ha,hb=>by
  unfold gF;split
  ·exact ha
  ·exact job n b _ hb (Int.tmod_nonneg _ ha)
theorem joa:∀(n:Nat) (a b:Int),gF n (-a) (-b)= -gF n a b
 |0,a,b=>rfl
 |n+1,a,b=>by
  unfold gF;by_cases h:b=0
  ·rw[if_pos h,if_pos (by omega)]
  ·rw[if_neg h,if_neg (by omega),Int.neg_tmod,Int.tmod_neg,joa n b]
theorem qx7(num den:Int)(hd:den≠0):∃(G u v:Int),0<G∧num=G*u∧den=G*v∧Nat.gcd u.natAbs v.natAbs=1∧v≠0∧gI (num.natAbs:Int) (den.natAbs:Int)=G∧gI (-(num.natAbs:Int)) (-(den.natAbs:Int))= -G:=by
 have hG:0<Nat.gcd num.natAbs den.natAbs:=Nat.gcd_pos_of_pos_right _ (by omega);have h1:((Nat.gcd num.natAbs den.natAbs:Nat):Int)∣ num:=Int.natAbs_dvd_natAbs.1 (by rw[Int.natAbs_natCast];exact Nat.gcd_dvd_left _ _);have h2:((Nat.gcd num.natAbs den.natAbs:Nat):Int)∣ den:=Int.natAbs_dvd_natAbs.1 (by rw[Int.natAbs_natCast];exact Nat.gcd_dvd_right _ _);have h3:gI (num.natAbs:Int) (den.natAbs:Int)=((Nat.gcd num.natAbs den.natAbs:Nat):Int):=by
  have e1:=jg7 (((den.natAbs:Int)).natAbs+1) (num.natAbs:Int) (den.natAbs:Int) (by omega);have e2:=job (((den.natAbs:Int)).natAbs+1) (num.natAbs:Int) (den.natAbs:Int) (by omega) (by omega);simp only[Int.natAbs_natCast]at e1 e2;unfold gI;simp only[Int.natAbs_natCast];omega
 have h4:gI (-(num.natAbs:Int)) (-(den.natAbs:Int))= -((Nat.gcd num.natAbs den.natAbs:Nat):Int):=by
  rw[←h3];unfold gI;rw[joa,Int.natAbs_neg]
 obtain⟨u,hu⟩:=h1;obtain⟨v,hv⟩:=h2;refine⟨_,u,v,by omega,hu,hv,?_,?_,h3,h4⟩
 ·have e1:num.natAbs=Nat.gcd num.natAbs den.natAbs*u.natAbs:=by
   have:=congrArg Int.natAbs hu;rw[Int.natAbs_mul,Int.natAbs_natCast]at this;exact this
  have e2:den.natAbs=Nat.gcd num.natAbs den.natAbs*v.natAbs:=by
   have:=congrArg Int.natAbs hv;rw[Int.natAbs_mul,Int.natAbs_natCast]at this;exact this
  generalize hg:Nat.gcd num.natAbs den.natAbs=g at e1 e2 hG;rw[e1,e2,Nat.gcd_mul_left]at hg;exact Nat.eq_of_mul_eq_mul_left hG (by omega)
 ·intro e;subst e;exact hd (by rw[hv];simp)
def mkV(n d:Int):ab×Int:=if n< -1073741824∨1073741824<n∨1073741824<d then((0,0,()),6)else((n,d,()),0)
def mkS(u v:Int):ab×Int:=if 0<v then mkV u v else mkV (-u) (-v)
theorem mb{x:Int}(h0:0≤x)(h1:x≤18446744073709551615):IntKind.wrap .u64 x=x:=by
 simp[IntKind.wrap,IntKind.bits,IntKind.signed];omega
theorem qky{x:Int}(h0: -9223372036854775807≤x)(h1:x≤9223372036854775807):u6 x=some (x.natAbs:Int):=by
 unfold u6;by_cases h:x<0
 ·rw[bi h];refine congrArg some ?_;simp[IntKind.wrap,IntKind.bits,IntKind.signed];omega
 ·rw[bj (by omega),mb (by omega) (by omega)];refine congrArg some ?_;omega
theorem jxy(neg:Bool){a b G u v:Int}(hG:0<G)(ha:a=G*u)(hb:b=G*v)(hu:0≤u)(hv:0<v)(ha2:a≤9223372036854775807)(hb2:b≤9223372036854775807)(hg:gI a b=G):qcg neg a b=some (mkV (if neg=true then-u else u) v):=by
 have hL:q3w neg a b 0 0 (a,b)=some (.inl (gI a b)):=
  q32 (step:=fun s:Int×Int=>qch (R:=LR (Int×Int) Int (ab×Int)) neg a b 0 0 s.1 s.2 (fun a' =>some (.next a')) (fun e=>some (.done e)) (fun r=>some (.ret r))) (fun x y=>by
   by_cases h:y=0
   ·simp(disch:=omega)only[qch,rs];rw[if_pos h]
   ·simp(disch:=omega)only[qch,y8,rs];rw[if_neg h]) _ a b many (by omega) (by
     have:0≤b:=by rw[hb];exact Int.mul_nonneg (by omega) (by omega)
     unfold many;omega)
 rw[hg]at hL;have e1:Int.tdiv a G=u:=by rw[ha,Int.mul_tdiv_cancel_left _ (by omega)]
 have e2:Int.tdiv b G=v:=by rw[hb,Int.mul_tdiv_cancel_left _ (by omega)]
 have hua:u≤a:=by
  rw[ha];have:1*u≤G*u:=Int.mul_le_mul_of_nonneg_right (by omega) hu;omega
 have hvb:v≤b:=by
  rw[hb];have:1*v≤G*v:=Int.mul_le_mul_of_nonneg_right (by omega) (by omega);omega
 have hG0:G≠0:=by omega
 have e1' :IntKind.wrap .u64 (Int.tdiv a G)=u:=by rw[e1,mb hu (by omega)]
 have e2' :IntKind.wrap .u64 (Int.tdiv b G)=v:=by rw[e2,mb (by omega) (by omega)]
 unfold qcg mkV;rw[hL,af];simp only[g9,e1',e2'];rw[y8 hG0,y8 hG0];by_cases h1:1073741824<u
 ·have h2:(if neg=true then-u else u)< -1073741824∨1073741824<(if neg=true then-u else u)∨1073741824<v:=by split<;>omega
  rw[if_pos h2];simp(disch:=omega)only[rs]
 ·by_cases h3:1073741824<v
  ·rw[if_pos (.inr (.inr h3))];simp(disch:=omega)only[rs]
  ·have h2:¬((if neg=true then-u else u)< -1073741824∨1073741824<(if neg=true then-u else u)∨1073741824<v):=by split<;>omega
   rw[if_neg h2];cases neg with
   |true=>
    simp(disch:=omega)only[if_true,rs];rw[Int.zero_sub]
   |false=>
    simp(disch:=omega)only[rs];simp
theorem jpq{num den G u v:Int}(hG:0<G)(hn:num=G*u)(hd:den=G*v)(hv:v≠0)(hn0: -9223372036854775807≤num)(hn1:num≤9223372036854775807)(hd0: -9223372036854775807≤den)(hd1:den≤9223372036854775807)(hg:gI (-(num.natAbs:Int)) (-(den.natAbs:Int))= -G):qek num den (-(num.natAbs:Int)) (-(den.natAbs:Int)) 0 0=some (.inr (mkS u v)):=by
 have hL:qvk num den 0 0 (-(num.natAbs:Int),-(den.natAbs:Int))=some (.inl (gI (-(num.natAbs:Int)) (-(den.natAbs:Int)))):=
  q32 (step:=fun s:Int×Int=>vb (R:=LR (Int×Int) Int (ab×Int)) num den 0 0 s.1 s.2 (fun a' =>some (.next a')) (fun e=>some (.done e)) (fun r=>some (.ret r))) (fun x y=>by
   by_cases h:y=0
   ·simp(disch:=omega)only[vb,rs];rw[if_pos h]
   ·simp(disch:=omega)only[vb,y8,rs];rw[if_neg h]) _ _ _ many (by omega) (by unfold many;omega)
 rw[hg]at hL;have hG0: -G≠0:=by omega
 have e1:Int.tdiv num (-G)= -u:=by rw[hn,Int.tdiv_neg,Int.mul_tdiv_cancel_left _ (by omega)]
 have e2:Int.tdiv den (-G)= -v:=by rw[hd,Int.tdiv_neg,Int.mul_tdiv_cancel_left _ (by omega)]
 have hlt:∀x:Int,x.natAbs≤(G*x).natAbs:=fun x=>by
  rw[Int.natAbs_mul];exact Nat.le_mul_of_pos_left _ (by omega)
 have hu1:=hlt u;have hv1:=hlt v;rw[←hn]at hu1;rw[←hd]at hv1;unfold qek qh0 mkS mkV;rw[hL,af];simp only[g9,e1,e2];rw[y8 hG0,y8 hG0];by_cases h0:0<v
 ·have e3:0- -u=u:=by omega
  have e4:0- -v=v:=by omega
  rw[if_pos h0];by_cases h1:u< -1073741824
  ·rw[if_pos (.inl h1)];simp(disch:=omega)only[e3,e4,dx,ie,rs]
  ·by_cases h2:1073741824<u
   ·rw[if_pos (.inr (.inl h2))];simp(disch:=omega)only[e3,e4,dx,ie,rs]
   ·by_cases h3:1073741824<v
    ·rw[if_pos (.inr (.inr h3))];simp(disch:=omega)only[e3,e4,dx,ie,rs]
    ·rw[if_neg (by omega)];simp(disch:=omega)only[e3,e4,dx,ie,kc,qby,rs]
 ·rw[if_neg h0];by_cases h1: -u< -1073741824
  ·rw[if_pos (.inl h1)];simp(disch:=omega)only[dx,ie,rs]
  ·by_cases h2:1073741824< -u
   ·rw[if_pos (.inr (.inl h2))];simp(disch:=omega)only[dx,ie,rs]
   ·by_cases h3:1073741824< -v
    ·rw[if_pos (.inr (.inr h3))];simp(disch:=omega)only[dx,ie,rs]
    ·rw[if_neg (by omega)];simp(disch:=omega)only[dx,ie,kc,qby,rs]
theorem jpp{num den G u v:Int}(hG:0<G)(hn:num=G*u)(hd:den=G*v)(hv:v≠0)(hn0: -9223372036854775807≤num)(hn1:num≤9223372036854775807)(hd0: -9223372036854775807≤den)(hd1:den≤9223372036854775807)(hg:gI (-(num.natAbs:Int)) (-(den.natAbs:Int))= -G):w9 num den=some (mkS u v):=by
 have hden:den≠0:=by
  intro e;rw[hd]at e;rcases Int.mul_eq_zero.1 e with e|e<;>omega
 have h3:=jpq hG hn hd hv hn0 hn1 hd0 hd1 hg;have h4:qel num den (-(num.natAbs:Int)) 0 0=some (.inr (mkS u v)):=by
  unfold qel qh1;by_cases h:0<den
  ·have e:0-den= -(den.natAbs:Int):=by omega
   rw[←e]at h3;simp(disch:=omega)only[h3,rs]
  ·have e:den= -(den.natAbs:Int):=by omega
   rw[←e]at h3;simp(disch:=omega)only[h3,rs]
 unfold w9;by_cases h:0<num
 ·have e:0-num= -(num.natAbs:Int):=by omega
  rw[←e]at h4;simp(disch:=omega)only[h4,rs]
 ·have e:num= -(num.natAbs:Int):=by omega
  rw[←e]at h4;simp(disch:=omega)only[h4,rs]
structure NF (f : ab) : Prop where
 n0 : -1073741824 ≤ f.1
 n1 : f.1 ≤ 1073741824
 d0 : 1 ≤ f.2.1
 d1 : f.2.1 ≤ 1073741824
 co : Nat.gcd f.1.natAbs f.2.1.natAbs = 1
theorem jyb{n d:Int}(hd:0<d)(hc:Nat.gcd n.natAbs d.natAbs=1):(mkV n d=((0,0,()),6)∧(n< -1073741824∨1073741824<n∨1073741824<d))∨(mkV n d=((n,d,()),0)∧NF (n,d,())):=by
 unfold mkV;by_cases h:n< -1073741824∨1073741824<n∨1073741824<d
 ·rw[if_pos h];exact .inl ⟨rfl,h⟩
 ·rw[if_neg h];exact .inr ⟨rfl,by show-1073741824≤n;omega,by show n≤1073741824;omega,by show 1≤d;omega,by show d≤1073741824;omega,hc⟩
theorem nu{n:Int}(h0: -1073741824≤n)(h1:n≤1073741824):NF (n,1,()):=⟨h0,h1,by show(1:Int)≤1;omega,by show(1:Int)≤1073741824;omega,by show Nat.gcd _ 1=1;simp⟩
def fv(a:ab):Rat:=(a.1:Rat)/(a.2.1:Rat)
def rF(q:Rat):ab×Int:=mkV q.num q.den
theorem jn3{u v:Int}(hv:0<v)(hc:Nat.gcd u.natAbs v.natAbs=1):((u:Rat)/(v:Rat)).num=u∧(((u:Rat)/(v:Rat)).den:Int)=v:=by
 have h:(u:Rat)/(v:Rat)=⟨u,v.natAbs,by omega,hc⟩:=by
  rw[←Rat.divInt_eq_div,Rat.mk_eq_divInt];congr 1;omega
 rw[h];exact⟨rfl,by show((v.natAbs:Nat):Int)=v;omega⟩
theorem jgv{G u v:Int}(hG:0<G):((G*u:Int):Rat)/((G*v:Int):Rat)=(u:Rat)/(v:Rat):=by
 rw[←Rat.divInt_eq_div,←Rat.divInt_eq_div,Rat.divInt_mul_left (by omega)]
theorem jce{u v:Int}(hv:0<v)(hc:Nat.gcd u.natAbs v.natAbs=1):mkV u v=rF ((u:Rat)/(v:Rat)):=by
 obtain⟨h1,h2⟩:=jn3 hv hc;unfold rF;rw[h1,h2]
theorem jya{num den G u v:Int}(hG:0<G)(hn:num=G*u)(hd:den=G*v)(hv:v≠0)(hc:Nat.gcd u.natAbs v.natAbs=1):mkS u v=rF ((num:Rat)/(den:Rat)):=by
 rw[hn,hd,jgv hG];unfold mkS;split
 ·exact jce (by omega) hc
 ·rw[jce (by omega) (by rw[Int.natAbs_neg,Int.natAbs_neg];exact hc),←Rat.divInt_eq_div,←Rat.divInt_eq_div,Rat.neg_divInt_neg]
theorem jag(q:Rat):(rF q=((0,0,()),6))∨((rF q).2=0∧NF (rF q).1∧fv (rF q).1=q):=by
 unfold rF;have hp:=q.den_nz;rcases jyb (n:=q.num) (d:=q.den) (by omega) (by rw[Int.natAbs_natCast];exact q.reduced)with⟨e,_⟩|⟨e,h⟩
 ·exact .inl e
 ·rw[e];refine .inr ⟨rfl,h,?_⟩;show(q.num:Rat)/((q.den:Int):Rat)=q;rw[←Rat.divInt_eq_div];exact Rat.num_divInt_den q
theorem q31{a:ab}(h:NF a):(fv a).num=a.1∧((fv a).den:Int)=a.2.1:=jn3 (by have:=h.d0;omega) h.co
theorem jx0{a b:ab}(ha:NF a)(hb:NF b)(h:fv a=fv b):a=b:=by
 obtain⟨a1,a2⟩:=q31 ha;obtain⟨b1,b2⟩:=q31 hb;rw[h]at a1 a2;obtain⟨x,y,u⟩:=a;obtain⟨z,w,u'⟩:=b;have e1:x=z:=a1.symm.trans b1;have e2:y=w:=a2.symm.trans b2;rw[e1,e2]
theorem jjw{a:ab}(h:NF a):rF (fv a)=(a,0):=by
 obtain⟨h1,h2⟩:=q31 h;unfold rF mkV;rw[h1,h2,if_neg (by have:=h.n0;have:=h.n1;have:=h.d1;omega)]
theorem NF.d{a:ab}(h:NF a):((a.2.1:Int):Rat)≠0:=by
 have:=h.d0;intro e;have h2:(a.2.1:Rat)=((0:Int):Rat):=e;have:=Rat.intCast_inj.1 h2;omega
theorem NF.dp{a:ab}(h:NF a):(0:Rat)<((a.2.1:Int):Rat):=Rat.intCast_pos.2 (by have:=h.d0;omega)
theorem nk(n:Int):fv (n,1,())=(n:Rat):=by
 show(n:Rat)/((1:Int):Rat)=n;rw[Rat.intCast_one]
 grind
end Go.Proofs.YteljgpepodpebaaGreat
