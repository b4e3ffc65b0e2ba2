/-
  Matrices: elimination without fractions is exact for small matrices: each entry is a determinant.
-/
import Derived.Test.YtclbndfjhjladaaGreatZ5PQ4
import Derived.Test.YtclbndfjhjladaaGreatZ5X2
set_option linter.all false
namespace Go.Proofs.YtclbndfjhjladaaGreat
open Go.K Go.M
abbrev Mat:=Nat→Nat→Int
def j8n(x:Int):Prop:= -9223372036854775808≤x∧x≤9223372036854775807
theorem jdp{x:Int}(h:j8n x):w64 x=x:=q72 h.1 h.2
def sgn(n:Nat):Int:=if n % 2=0 then 1 else-1
def sb(N:Mat)(q:Nat→Nat):Mat:=fun a b=>N a (q b)
def dD(N:Mat)(q:Nat→Nat)(k:Nat):Int:=tq k (sb N q)
def cM(N:Mat)(q:Nat→Nat)(k s j:Nat):Int:=tq k (qoa (sb N q) s fun a=>N a j)
def eM(N:Mat)(q:Nat→Nat)(k i j:Nat):Int:=N i j*dD N q k-af (fun s=>N i (q s)*cM N q k s j) k
theorem jbj(N:Mat)(q:Nat→Nat)(k i j:Nat):eM N q k i j=tq (k+1) (qn9 k (sb N q) (fun a=>N a j) (fun s=>N i (q s)) (N i j)):=(qs9 k (sb N q) (fun a=>N a j) (fun s=>N i (q s)) (N i j)).symm
theorem jbk{N:Mat}{q:Nat→Nat}{k i:Nat}(hi:i<k)(j:Nat):eM N q k i j=0:=by
 have h:af (fun s=>N i (q s)*cM N q k s j) k=N i j*dD N q k:=jym (sb N q) (fun a=>N a j) hi;unfold eM;rw[h];omega
theorem jo9{N:Mat}{q:Nat→Nat}{k t:Nat}(ht:t<k)(i:Nat):eM N q k i (q t)=0:=by
 rw[jbj];have h:=(qi8 (k+1)).eq' (c:=t) (d:=k) (by omega) (by omega) (by omega) (v:=tr (qn9 k (sb N q) (fun a=>N a (q t)) (fun s=>N i (q s)) (N i (q t)))) (by
  funext a;unfold tr qn9 sb;by_cases e:a=k
  ·simp[e,Nat.ne_of_lt ht]
  ·simp[e,Nat.ne_of_lt ht])
 exact h
theorem jyh{N:Mat}{q:Nat→Nat}{k s t:Nat}(hs:s<k)(ht:t<k)(hne:s≠t):cM N q k s (q t)=0:=by
 unfold cM;rw[jsu];exact(qi8 k).eq' (c:=s) (d:=t) hs ht hne (by
  rw[mf,lm (Ne.symm hne)];rfl)
theorem jsi{N:Mat}{q:Nat→Nat}{k s:Nat}:cM N q k s (q s)=dD N q k:=by
 unfold cM dD;refine fy _ fun i j _ _=> ?_
 unfold qoa sb;by_cases e:j=s
 ·rw[if_pos e,e]
 ·rw[if_neg e]
def qx(q:Nat→Nat)(k c:Nat):Nat→Nat:=fun b=>if b=k then c else q b
theorem jve{q:Nat→Nat}{k c b:Nat}(h:b<k):qx q k c b=q b:=if_neg (by omega)
theorem jqq{q:Nat→Nat}{k c:Nat}:qx q k c k=c:=if_pos rfl
theorem jbd(N:Mat)(q:Nat→Nat)(k c:Nat):dD N (qx q k c) (k+1)=eM N q k k c:=by
 rw[jbj];refine fy _ fun i j hi hj=> ?_
 unfold sb qn9 qx;by_cases e:i=k<;>by_cases e2:j=k<;>simp[e,e2]
theorem jjh(N:Mat)(q:Nat→Nat)(k c j:Nat):cM N (qx q k c) (k+1) k j=eM N q k k j:=by
 rw[jbj];refine fy _ fun i b hi hb=> ?_
 unfold qoa sb qn9 qx;by_cases e:i=k<;>by_cases e2:b=k<;>simp[e,e2]
theorem js2(N:Mat)(q:Nat→Nat)(k c i j:Nat):eM N (qx q k c) (k+1) i j=N i j*eM N q k k c-af (fun s=>N i (q s)*cM N (qx q k c) (k+1) s j) k-N i c*eM N q k k j:=by
 have e:eM N (qx q k c) (k+1) i j=N i j*dD N (qx q k c) (k+1)-(af (fun s=>N i (qx q k c s)*cM N (qx q k c) (k+1) s j) k+N i (qx q k c k)*cM N (qx q k c) (k+1) k j):=rfl;rw[e,jbd,jjh,jqq,aj (g:=fun s=>N i (q s)*cM N (qx q k c) (k+1) s j) fun s hs=>by rw[jve hs]];omega
def xC(N:Mat)(q:Nat→Nat)(k c j s:Nat):Int:=dD N q k*cM N (qx q k c) (k+1) s j-eM N q k k c*cM N q k s j+cM N q k s c*eM N q k k j
theorem jrr(N:Mat)(q:Nat→Nat)(k c j u:Nat):af (fun s=>xC N q k c j s*N u (q s)) k=eM N q k k c*eM N q k u j-eM N q k u c*eM N q k k j-dD N q k*eM N (qx q k c) (k+1) u j:=by
 have e1:af (fun s=>xC N q k c j s*N u (q s)) k=dD N q k*af (fun s=>N u (q s)*cM N (qx q k c) (k+1) s j) k-eM N q k k c*af (fun s=>N u (q s)*cM N q k s j) k+af (fun s=>N u (q s)*cM N q k s c) k*eM N q k k j:=by
  rw[←bm,←bm,←qcq,Int.sub_eq_add_neg,Int.neg_eq_neg_one_mul,←bm,←sn,←sn];refine aj fun s _=> ?_
  unfold xC;generalize cM N (qx q k c) (k+1) s j=a;generalize cM N q k s j=b;generalize cM N q k s c=d;generalize eM N q k k j=e;generalize eM N q k k c=f;generalize dD N q k=g;generalize N u (q s)=n;rw[Int.add_mul,Int.sub_mul,Int.mul_assoc g,Int.mul_comm a,Int.mul_assoc f,Int.mul_comm b,Int.mul_right_comm d e n,Int.mul_comm d n];omega
 rw[e1,js2];have e2:eM N q k u j=N u j*dD N q k-af (fun s=>N u (q s)*cM N q k s j) k:=rfl;have e3:eM N q k u c=N u c*dD N q k-af (fun s=>N u (q s)*cM N q k s c) k:=rfl;rw[e2,e3];generalize af (fun s=>N u (q s)*cM N (qx q k c) (k+1) s j) k=a;generalize af (fun s=>N u (q s)*cM N q k s j) k=b;generalize af (fun s=>N u (q s)*cM N q k s c) k=d;generalize eM N q k k j=e;generalize eM N q k k c=f;generalize dD N q k=g;generalize N u j=n;generalize N u c=m;simp only[Int.mul_sub,Int.sub_mul];have h1:f*(n*g)=g*(n*f):=by rw[Int.mul_left_comm,Int.mul_comm f,Int.mul_left_comm]
 have h2:m*g*e=g*(m*e):=by rw[Int.mul_comm m,Int.mul_assoc]
 rw[h1,h2];omega
theorem jlj{N:Mat}{q:Nat→Nat}{k:Nat}(h0:dD N q k≠0)(c j:Nat){s:Nat}(hs:s<k):xC N q k c j s=0:=
 qxu h0 (fun u hu=>by
  show af (fun s=>xC N q k c j s*N u (q s)) k=0;rw[jrr,jbk hu,jbk hu,jbk (show u<k+1 by omega)];simp) s hs
theorem jrh{N:Mat}{q:Nat→Nat}{k:Nat}(h0:dD N q k≠0)(c i j:Nat):eM N q k k c*eM N q k i j-eM N q k i c*eM N q k k j=dD N q k*eM N (qx q k c) (k+1) i j:=by
 have h:=jrr N q k c j i;rw[bw fun s hs=>by rw[jlj h0 c j hs,Int.zero_mul]]at h;omega
theorem j2d{N:Mat}{q:Nat→Nat}{k:Nat}(h0:dD N q k≠0)(c j:Nat){s:Nat}(hs:s<k):eM N q k k c*cM N q k s j-cM N q k s c*eM N q k k j=dD N q k*cM N (qx q k c) (k+1) s j:=by
 have h:=jlj h0 c j hs;unfold xC at h;omega
section
variable {R C : Nat} {M : Mat}
theorem jkk(C:Nat)(M:Mat):∀n,pr C M n=gl (fun i=>max (aS C M i) 1) n
 |0=>rfl
 |n+1=>by
  show pr C M n*_=_;rw[jkk C M n];rfl
theorem q6d{r q:Nat→Nat}{k:Nat}(hr:Inj r k R)(hq:Inj q k C): -pr C M R≤tq k (fun a b=>M (r a) (q b))∧tq k (fun a b=>M (r a) (q b))≤pr C M R:=by
 have h:=q9e k (fun a b=>M (r a) (q b)) (fun a b=>ab (M (r a) (q b))) fun a b _ _=>by unfold ab;omega
 have h2:gl (fun a=>af (fun b=>ab (M (r a) (q b))) k) k≤gl (fun a=>max (aS C M (r a)) 1) k:=qtu fun a ha=>by
  have h3:af (fun b=>ab (M (r a) (q b))) k≤aS C M (r a):=q30 (f:=fun j=>ab (M (r a) j)) hq fun j _=>ji7 _
  have h4:0≤af (fun b=>ab (M (r a) (q b))) k:=qgw fun b _=>ji7 _
  refine⟨h4,?_⟩;have:aS C M (r a)≤max (aS C M (r a)) 1:=Int.le_max_left _ _;exact Int.le_trans h3 this
 have h5:=jfb (f:=fun i=>max (aS C M i) 1) hr fun i _=>Int.le_max_right _ _
 rw[jkk];generalize gl (fun i=>max (aS C M i) 1) R=P at h5⊢;generalize gl (fun a=>af (fun b=>ab (M (r a) (q b))) k) k=X at h h2;have h5' :gl (fun a=>max (aS C M (r a)) 1) k≤P:=h5;omega
def rw'(M:Mat)(σ:Nat→Nat):Mat:=fun i j=>M (σ i) j
theorem j27{σ q:Nat→Nat}{k:Nat}(hσ:Inj σ R R)(hk:k≤R)(hq:Inj q k C): -pr C M R≤dD (rw' M σ) q k∧dD (rw' M σ) q k≤pr C M R:=
 q6d (r:=σ) ⟨fun b hb=>hσ.1 b (by omega),fun a b ha hb=>hσ.2 a b (by omega) (by omega)⟩ hq
theorem juv{σ q:Nat→Nat}{k s j:Nat}(hσ:Inj σ R R)(hk:k≤R)(hq:Inj q k C)(hs:s<k)(hj:j<C): -pr C M R≤cM (rw' M σ) q k s j∧cM (rw' M σ) q k s j≤pr C M R:=by
 have hp:=qzs C M R;by_cases h:∃t,t<k∧j=q t
 ·obtain⟨t,ht,rfl⟩:=h;by_cases e:s=t
  ·subst e;rw[jsi];exact j27 hσ hk hq
  ·rw[jyh hs ht e];omega
 ·have hn:∀t,t<k→q t≠j:=fun t ht e=>h ⟨t,ht,e.symm⟩
  have e:cM (rw' M σ) q k s j=tq k (fun a b=>M (σ a) (if b=s then j else q b)):=by
   refine fy _ fun a b _ _=> ?_
   unfold qoa sb rw';split<;>rfl
  rw[e];refine q6d (r:=σ) (q:=fun b=>if b=s then j else q b) ⟨fun b hb=>hσ.1 b (by omega),fun a b ha hb=>hσ.2 a b (by omega) (by omega)⟩ ⟨fun b hb=> ?_,fun a b ha hb hab=> ?_⟩
  ·show(if b=s then j else q b)<C;split
   ·exact hj
   ·exact hq.1 b hb
  ·simp only at hab;by_cases e1:a=s
   ·by_cases e2:b=s
    ·omega
    ·rw[if_pos e1,if_neg e2]at hab;exact absurd hab.symm (hn b hb)
   ·by_cases e2:b=s
    ·rw[if_neg e1,if_pos e2]at hab;exact absurd hab (hn a ha)
    ·rw[if_neg e1,if_neg e2]at hab;exact hq.2 a b ha hb hab
theorem ju2{σ q:Nat→Nat}{k i j:Nat}(hσ:Inj σ R R)(hq:Inj q k C)(hk:k≤i)(hi:i<R)(hj:j<C): -pr C M R≤eM (rw' M σ) q k i j∧eM (rw' M σ) q k i j≤pr C M R:=by
 have hp:=qzs C M R;by_cases h:∃t,t<k∧j=q t
 ·obtain⟨t,ht,rfl⟩:=h;rw[jo9 ht];omega
 ·have hn:∀t,t<k→q t≠j:=fun t ht e=>h ⟨t,ht,e.symm⟩
  have e:eM (rw' M σ) q k i j=tq (k+1) (fun a b=>M (if a=k then σ i else σ a) (if b=k then j else q b)):=by
   rw[jbj];refine fy _ fun a b _ _=> ?_
   unfold qn9 sb rw';by_cases e1:a=k<;>by_cases e2:b=k<;>simp[e1,e2]
  rw[e];refine q6d (r:=fun a=>if a=k then σ i else σ a) (q:=fun b=>if b=k then j else q b) ⟨fun b hb=> ?_,fun a b ha hb hab=> ?_⟩ ⟨fun b hb=> ?_,fun a b ha hb hab=> ?_⟩
  ·show(if b=k then σ i else σ b)<R;split
   ·exact hσ.1 i hi
   ·exact hσ.1 b (by omega)
  ·simp only at hab;have key:∀x y,x<R→y<R→σ x=σ y→x=y:=fun x y hx hy=>hσ.2 x y hx hy
   by_cases e1:a=k
   ·by_cases e2:b=k
    ·omega
    ·rw[if_pos e1,if_neg e2]at hab;have:=key i b hi (by omega) hab;omega
   ·by_cases e2:b=k
    ·rw[if_neg e1,if_pos e2]at hab;have:=key a i (by omega) hi hab;omega
    ·rw[if_neg e1,if_neg e2]at hab;exact key a b (by omega) (by omega) hab
  ·show(if b=k then j else q b)<C;split
   ·exact hj
   ·exact hq.1 b (by omega)
  ·simp only at hab;by_cases e1:a=k
   ·by_cases e2:b=k
    ·omega
    ·rw[if_pos e1,if_neg e2]at hab;exact absurd hab.symm (hn b (by omega))
   ·by_cases e2:b=k
    ·rw[if_neg e1,if_pos e2]at hab;exact absurd hab (hn a (by omega))
    ·rw[if_neg e1,if_neg e2]at hab;exact hq.2 a b (by omega) (by omega) hab
theorem ju3{p f d x y z:Int}(hp: -1073741824≤p∧p≤1073741824)(hf: -1073741824≤f∧f≤1073741824)(hx: -1073741824≤x∧x≤1073741824)(hy: -1073741824≤y∧y≤1073741824)(hz: -1073741824≤z∧z≤1073741824)(hd:d≠0)(h:p*x-f*y=d*z):el p f d x y=z:=by
 have h1:=oi hp hx;have h2:=oi hf hy;unfold el;rw[jdp (x:=p*x) ⟨by omega,by omega⟩,jdp (x:=f*y) ⟨by omega,by omega⟩,jdp (x:=p*x-f*y) ⟨by omega,by omega⟩,h,Int.mul_tdiv_cancel_left _ hd,jdp ⟨by omega,by omega⟩]
def qs(s:RS):Nat→Nat:=fun b=>s.piv.getD b 0
structure XI (R C : Nat) (M : Mat) (c : Nat) (s : RS) (σ : Nat → Nat) : Prop where
 inj : Inj σ R R
 sur : ∀ r, r < R → ∃ i, i < R ∧ σ i = r
 le : s.piv.length ≤ R
 mono : ∀ a b, a < b → b < s.piv.length → qs s a < qs s b
 lt : ∀ a, a < s.piv.length → qs s a < c
 d0 : dD (rw' M σ) (qs s) s.piv.length ≠ 0
 den : s.den = dD (rw' M σ) (qs s) s.piv.length
 up : ∀ i j, i < s.piv.length → j < C → s.A i j = cM (rw' M σ) (qs s) s.piv.length i j
 lo : ∀ i j, s.piv.length ≤ i → i < R → j < C → s.A i j = eM (rw' M σ) (qs s) s.piv.length i j
 zero : ∀ i j, s.piv.length ≤ i → i < R → j < c → j < C → s.A i j = 0
 sg : tq R M = sgn s.sw * tq R (rw' M σ)
 ech : ∀ i j, i < s.piv.length → j < qs s i → s.A i j = 0
theorem XI.qinj{c:Nat}{s:RS}{σ:Nat→Nat}(h:XI R C M c s σ)(hc:c≤C):Inj (qs s) s.piv.length C:=
 ⟨fun b hb=>Nat.lt_of_lt_of_le (h.lt b hb) hc,fun a b ha hb e=>by
  rcases Nat.lt_trichotomy a b with hlt|he|hlt
  ·have:=h.mono a b hlt hb;omega
  ·exact he
  ·have:=h.mono b a hlt ha;omega⟩
theorem qqa{s:RS}{c:Nat}{A:Mat}{d:Int}{w:Nat}{b:Nat}(hb:b<s.piv.length+1):qs ⟨A,d,w,s.piv++[c]⟩ b=qx (qs s) s.piv.length c b:=by
 unfold qs qx;by_cases e:b=s.piv.length
 ·subst e;simp[List.getD_eq_getElem?_getD]
 ·rw[if_neg e];have:b<s.piv.length:=by omega
  simp[List.getD_eq_getElem?_getD,List.getElem?_append_left this]
theorem q4t{N:Mat}{q q' :Nat→Nat}{k:Nat}(h:∀b,b<k→q b=q' b):dD N q k=dD N q' k:=fy _ fun i j _ hj=>by unfold sb;rw[h j hj]
theorem jd7{N:Mat}{q q' :Nat→Nat}{k s j:Nat}(h:∀b,b<k→q b=q' b):cM N q k s j=cM N q' k s j:=fy _ fun i b _ hb=>by unfold qoa sb;rw[h b hb]
theorem jo8{N:Mat}{q q' :Nat→Nat}{k i j:Nat}(h:∀b,b<k→q b=q' b):eM N q k i j=eM N q' k i j:=by
 unfold eM;rw[q4t h,aj fun s hs=>by rw[h s hs,jd7 h]]
theorem XI.clear(hC:pr C M R≤1073741824){c:Nat}{s:RS}{σ:Nat→Nat}(h:XI R C M c s σ)(hc:c<C)(hk:s.piv.length<R)(hne:s.A s.piv.length c≠0)(w:Nat)(hw:w=s.sw):
  XI R C M (c+1) ⟨clr s.piv.length c s.A s.den,s.A s.piv.length c,w,s.piv++[c]⟩ σ:=by
 subst hw;have hq:=h.qinj (by omega);have hqx:Inj (qx (qs s) s.piv.length c) (s.piv.length+1) C:=⟨fun b hb=>by
  unfold qx;split
  ·exact hc
  ·exact hq.1 b (by omega),fun a b ha hb hab=>by
  unfold qx at hab;by_cases e1:a=s.piv.length
  ·by_cases e2:b=s.piv.length
   ·omega
   ·rw[if_pos e1,if_neg e2]at hab;have:=h.lt b (by omega);omega
  ·by_cases e2:b=s.piv.length
   ·rw[if_neg e1,if_pos e2]at hab;have:=h.lt a (by omega);omega
   ·rw[if_neg e1,if_neg e2]at hab;exact hq.2 a b (by omega) (by omega) hab⟩
 have hlen:(s.piv++[c]).length=s.piv.length+1:=by simp
 have hp:s.A s.piv.length c=eM (rw' M σ) (qs s) s.piv.length s.piv.length c:=h.lo _ _ (Nat.le_refl _) hk hc;have bnd:∀x:Int,-pr C M R≤x∧x≤pr C M R→-1073741824≤x∧x≤1073741824:=fun x hx=>by omega
 have he:∀{i j},s.piv.length≤i→i<R→j<C→-1073741824≤eM (rw' M σ) (qs s) s.piv.length i j∧eM (rw' M σ) (qs s) s.piv.length i j≤1073741824:=fun h1 h2 h3=>bnd _ (ju2 h.inj hq h1 h2 h3)
 have hcm:∀{i j},i<s.piv.length→j<C→-1073741824≤cM (rw' M σ) (qs s) s.piv.length i j∧cM (rw' M σ) (qs s) s.piv.length i j≤1073741824:=fun h1 h2=>bnd _ (juv h.inj h.le hq h1 h2)
 have hcl:∀i j,i≠s.piv.length→clr s.piv.length c s.A s.den i j=el (s.A s.piv.length c) (s.A i c) s.den (s.A i j) (s.A s.piv.length j):=fun i j hne=>if_neg hne
 have hct:∀j,clr s.piv.length c s.A s.den s.piv.length j=s.A s.piv.length j:=fun j=>if_pos rfl
 have hlo:∀i j,s.piv.length+1≤i→i<R→j<C→clr s.piv.length c s.A s.den i j=eM (rw' M σ) (qx (qs s) s.piv.length c) (s.piv.length+1) i j:=fun i j h1 h2 h3=>by
  rw[hcl i j (by omega),h.lo _ _ (Nat.le_refl _) hk hc,h.lo i c (by omega) h2 hc,h.lo i j (by omega) h2 h3,h.lo _ j (Nat.le_refl _) hk h3,h.den];exact ju3 (he (Nat.le_refl _) hk hc) (he (by omega) h2 hc) (he (by omega) h2 h3) (he (Nat.le_refl _) hk h3) (bnd _ (ju2 h.inj hqx h1 h2 h3)) h.d0 (jrh h.d0 c i j)
 refine⟨h.inj,h.sur,?_,?_,?_,?_,?_,?_,?_,?_,h.sg,?_⟩
 ·show(s.piv++[c]).length≤R;rw[hlen];omega
 ·intro a b hab hb;have hb' :b<s.piv.length+1:=by rw[←hlen];exact hb
  rw[qqa (by omega),qqa hb'];unfold qx;rw[if_neg (by omega)];split
  ·exact h.lt a (by omega)
  ·exact h.mono a b hab (by omega)
 ·intro a ha;have ha' :a<s.piv.length+1:=by rw[←hlen];exact ha
  rw[qqa ha'];unfold qx;split
  ·omega
  ·have:=h.lt a (by omega);omega
 ·show dD _ _ (s.piv++[c]).length≠0;rw[hlen,q4t fun b hb=>qqa hb,jbd,←hp];exact hne
 ·show s.A s.piv.length c=dD _ _ (s.piv++[c]).length;rw[hlen,q4t fun b hb=>qqa hb,jbd,←hp]
 ·intro i j hi hj;have hi' :i<s.piv.length+1:=by rw[←hlen];exact hi
  show clr s.piv.length c s.A s.den i j=cM _ _ (s.piv++[c]).length i j;rw[hlen,jd7 fun b hb=>qqa hb];by_cases e:i=s.piv.length
  ·subst e;rw[hct,jjh,h.lo _ j (Nat.le_refl _) hk hj]
  ·have hik:i<s.piv.length:=by omega
   rw[hcl i j e,h.lo _ _ (Nat.le_refl _) hk hc,h.up i c hik hc,h.up i j hik hj,h.lo _ j (Nat.le_refl _) hk hj,h.den];exact ju3 (he (Nat.le_refl _) hk hc) (hcm hik hc) (hcm hik hj) (he (Nat.le_refl _) hk hj) (bnd _ (juv h.inj (by omega) hqx hi' hj)) h.d0 (j2d h.d0 c j hik)
 ·intro i j hi hiR hj;have hi' :s.piv.length+1≤i:=by rw[←hlen];exact hi
  show clr s.piv.length c s.A s.den i j=eM _ _ (s.piv++[c]).length i j;rw[hlen,jo8 fun b hb=>qqa hb];exact hlo i j hi' hiR hj
 ·intro i j hi hiR hjc hj;have hi' :s.piv.length+1≤i:=by rw[←hlen];exact hi
  show clr s.piv.length c s.A s.den i j=0;rw[hlo i j hi' hiR hj];by_cases e:j=c
  ·subst e;have h1:qx (qs s) s.piv.length j s.piv.length=j:=jqq;have h2:=jo9 (N:=rw' M σ) (q:=qx (qs s) s.piv.length j) (k:=s.piv.length+1) (t:=s.piv.length) (by omega) i;rw[h1]at h2;exact h2
  ·have h1:=jrh h.d0 c i j;rw[←h.lo i j (by omega) hiR hj,←h.lo _ j (Nat.le_refl _) hk hj,h.zero i j (by omega) hiR (by omega) hj,h.zero _ j (Nat.le_refl _) hk (by omega) hj]at h1;rw[Int.mul_zero,Int.mul_zero,Int.sub_self]at h1;exact(Int.mul_eq_zero.1 h1.symm).resolve_left h.d0
 ·intro i j hi hj;have hi' :i<s.piv.length+1:=by rw[←hlen];exact hi
  rw[qqa hi']at hj;show clr s.piv.length c s.A s.den i j=0;by_cases e:i=s.piv.length
  ·subst e;rw[jqq]at hj;rw[hct];exact h.zero _ j (Nat.le_refl _) hk hj (by omega)
  ·rw[jve (by omega)]at hj;have hik:i<s.piv.length:=by omega
   have:=h.lt i hik;rw[hcl i j e,h.ech i j hik hj,h.zero _ j (Nat.le_refl _) hk (by omega) (by omega)];simp[el,w64,IntKind.wrap,IntKind.bits,IntKind.signed]
def sx(σ:Nat→Nat)(k t:Nat):Nat→Nat:=fun i=>σ (if i=t then k else if i=k then t else i)
theorem XI.swap{c:Nat}{s:RS}{σ:Nat→Nat}(h:XI R C M c s σ){r:Nat}(hr:s.piv.length<r)(hR:r<R):XI R C M c ⟨swp s.A r s.piv.length,s.den,s.sw+1,s.piv⟩ (sx σ r s.piv.length):=by
 have hlow:∀i,i<s.piv.length→sx σ r s.piv.length i=σ i:=fun i hi=>by
  unfold sx;rw[if_neg (by omega),if_neg (by omega)]
 have hd:∀k,k≤s.piv.length→∀q,dD (rw' M (sx σ r s.piv.length)) q k=dD (rw' M σ) q k:=fun k hk q=>fy _ fun a b ha hb=>by
  unfold sb rw';rw[hlow a (by omega)]
 have hc:∀q i j,cM (rw' M (sx σ r s.piv.length)) q s.piv.length i j=cM (rw' M σ) q s.piv.length i j:=fun q i j=>fy _ fun a b ha hb=>by
  simp only[qoa,sb,rw'];rw[hlow a ha]
 have hsw:∀i,i<R→s.piv.length≤i→(if i=s.piv.length then r else if i=r then s.piv.length else i)<R∧s.piv.length≤(if i=s.piv.length then r else if i=r then s.piv.length else i):=fun i h1 h2=>by
  repeat' split
  all_goals omega
 have hsr:∀i,i<R→(if i=s.piv.length then r else if i=r then s.piv.length else i)<R:=fun i h1=>by
  repeat' split
  all_goals omega
 refine⟨⟨fun b hb=>h.inj.1 _ (hsr b hb),fun a b ha hb hab=> ?_⟩,fun i hi=> ?_,h.le,h.mono,h.lt,?_,?_,?_,?_,?_,?_,fun i j hi hj=> ?_⟩
 ·have:=h.inj.2 _ _ (hsr a ha) (hsr b hb) hab
  repeat' split at this
  all_goals omega
 ·obtain⟨t,ht,rfl⟩:=h.sur i hi;refine⟨_,hsr t ht,?_⟩;unfold sx;congr 1
  repeat' split
  all_goals omega
 ·show dD _ (qs s) s.piv.length≠0;rw[hd _ (Nat.le_refl _)];exact h.d0
 ·show s.den=dD _ (qs s) s.piv.length;rw[hd _ (Nat.le_refl _)];exact h.den
 ·intro i j hi hj;show swp s.A r s.piv.length i j=cM _ (qs s) s.piv.length i j;have hi' :i<s.piv.length:=hi;unfold swp;rw[if_neg (by omega),if_neg (by omega),hc,h.up i j hi' hj]
 ·intro i j hi hiR hj;show swp s.A r s.piv.length i j=eM _ (qs s) s.piv.length i j;have hi' :s.piv.length≤i:=hi;unfold swp;rw[h.lo _ j (hsw i hiR hi').2 (hsw i hiR hi').1 hj];unfold eM;rw[hd _ (Nat.le_refl _)];congr 1;exact aj fun t _=>by rw[hc];rfl
 ·intro i j hi hiR hjc hj;have hi' :s.piv.length≤i:=hi;show swp s.A r s.piv.length i j=0;unfold swp;exact h.zero _ j (hsw i hiR hi').2 (hsw i hiR hi').1 hjc hj
 ·show tq R M=sgn (s.sw+1)*tq R (rw' M (sx σ r s.piv.length));have h1:=(qo2 R).swap' (c:=s.piv.length) (d:=r) (by omega) hR (by omega) (rw' M σ) (rw' M σ s.piv.length) (rw' M σ r);rw[qgm,qgm]at h1;have h2:put (put (rw' M σ) s.piv.length (rw' M σ r)) r (rw' M σ s.piv.length)=rw' M (sx σ r s.piv.length):=by
   funext i;unfold put rw' sx;by_cases e1:i=r
   ·subst e1;rw[if_pos rfl,if_neg (by omega),if_pos rfl]
   ·rw[if_neg e1,if_neg e1];by_cases e2:i=s.piv.length
    ·rw[if_pos e2,if_pos e2]
    ·rw[if_neg e2,if_neg e2]
  rw[h2]at h1;rw[h.sg,h1];have h3:sgn (s.sw+1)= -sgn s.sw:=by
   unfold sgn;rcases Nat.mod_two_eq_zero_or_one s.sw with h|h
   ·have h' :¬(s.sw+1) % 2=0:=by omega
    rw[if_pos h,if_neg h']
   ·have h' :(s.sw+1) % 2=0:=by omega
    have h2:¬s.sw % 2=0:=by omega
    rw[if_pos h',if_neg h2];rfl
  rw[h3,Int.mul_neg,Int.neg_mul]
 ·show swp s.A r s.piv.length i j=0;have hi' :i<s.piv.length:=hi;unfold swp;rw[if_neg (by omega),if_neg (by omega)];exact h.ech i j hi' hj
theorem q6z(hC:pr C M R≤1073741824):∀c,c≤C→∃σ,XI R C M c (cz R M c) σ
 |0,_=>⟨fun i=>i,⟨fun b hb=>hb,fun a b _ _ e=>e⟩,fun r hr=>⟨r,hr,rfl⟩,Nat.zero_le _,fun a b _ hb=>by simp[cz]at hb,fun a ha=>by simp[cz]at ha,by simp[cz,dD,tq],by simp[cz,dD,tq],fun i j hi=>by simp[cz]at hi,fun i j _ _ _=>by
   simp[cz,eM,dD,tq,af,rw'],fun i j _ _ h=>by omega,by
   show tq R M=sgn 0*tq R M;simp[sgn],fun i j hi=>by simp[cz]at hi⟩
 |c+1,hc=>by
  obtain⟨σ,h⟩:=q6z hC c (by omega);show∃σ,XI R C M (c+1) (qn5 R c (cz R M c)) σ;generalize cz R M c=s at h;obtain⟨h1,h2,h3,h4⟩:=qvx s.A c (R-s.piv.length) s.piv.length;have hle:=h.le;unfold qn5;split
  ·rename_i e1;refine⟨σ,h.inj,h.sur,h.le,h.mono,fun a ha=>by have:=h.lt a ha;omega,h.d0,h.den,h.up,h.lo,fun i j hi hiR hjc hj=> ?_,h.sg,h.ech⟩;by_cases e:j=c
   ·rw[e];exact h4 i hi (by omega)
   ·exact h.zero i j hi hiR (by omega) hj
  ·rename_i e1;have hlt:nz s.A c (R-s.piv.length) s.piv.length<R:=by omega
   have hne:=h3 (by omega);split
   ·rename_i e2;rw[e2]at hne;exact⟨σ,h.clear hC (by omega) (by omega) hne s.sw rfl⟩
   ·rename_i e2;generalize nz s.A c (R-s.piv.length) s.piv.length=r at*;have hs:=h.swap (r:=r) (by omega) hlt;have hv:swp s.A r s.piv.length s.piv.length c=s.A r c:=by simp[swp]
    have:=hs.clear hC (by omega) (by show s.piv.length<R;omega) (by show swp s.A r s.piv.length s.piv.length c≠0;rw[hv];exact hne) (s.sw+1) rfl;refine⟨sx σ r s.piv.length,?_⟩;show XI R C M (c+1) ⟨clr s.piv.length c (swp s.A r s.piv.length) s.den,s.A r c,s.sw+1,s.piv++[c]⟩ _;rw[←hv];exact this
end
end Go.Proofs.YtclbndfjhjladaaGreat
