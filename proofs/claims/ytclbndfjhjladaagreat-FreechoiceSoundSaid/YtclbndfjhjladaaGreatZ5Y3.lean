/-
  Freechoice: the closure's liveness and the net's soundness; the rank theorem at the closure.
-/
import Derived.Test.YtclbndfjhjladaaGreatZ5Y2
set_option linter.all false
namespace Go.Proofs.YtclbndfjhjladaaGreat
open Go.K Go.M
theorem ifc{a b:Prop}[Decidable a][Decidable b](h:a↔b):(if a then(1:Int)else 0)=if b then 1 else 0:=by
 by_cases hb:b
 ·rw[if_pos (h.2 hb),if_pos hb]
 ·rw[if_neg fun ha=>hb (h.1 ha),if_neg hb]
theorem jmx{c:bp}{N k:Nat}(h:qrr c N k=true):xd c.2.1 false (ij N k)∧1≤k:=by
 unfold qrr at h;simp only[Bool.and_eq_true,decide_eq_true_eq]at h;exact⟨h.2.2,h.1⟩
def e1(p0:Nat):Nat→Int:=fun p=>if p=p0 then 1 else 0
section
variable {n : bp} (W : Wn n)
include W
theorem Wn.ip{t:Nat}(ht:t<n.2.1.length)(p:Nat):Ip (am n) t p↔Ip n t p:=by unfold Ip;rw[W.old ht]
theorem Wn.op{t:Nat}(ht:t<n.2.1.length)(p:Nat):Op (am n) t p↔Op n t p:=by unfold Op;rw[W.old ht]
theorem Wn.ipS(p:Nat):Ip (am n) n.2.1.length p↔p=n.2.2.2.1.toNat:=by
 have:=W.src;unfold Ip;rw[W.new];show(p:Int)∈[n.2.2.2.1]↔_;rw[List.mem_singleton];omega
theorem Wn.opS(p:Nat):Op (am n) n.2.1.length p↔p=n.2.2.1.toNat:=by
 have:=W.src;unfold Op;rw[W.new];show(p:Int)∈[n.2.2.1]↔_;rw[List.mem_singleton];omega
theorem Wn.fire{t:Nat}(ht:t<n.2.1.length)(x:Nat→Int):FC.fire (Ip (am n)) (Op (am n)) x t=FC.fire (Ip n) (Op n) x t:=by
 funext p;unfold FC.fire;rw[ifc (W.ip ht p),ifc (W.op ht p)]
theorem Wn.en{t:Nat}(ht:t<n.2.1.length)(x:Nat→Int):EnN (am n) x t↔EnN n x t:=
 ⟨fun h p hp hi=>h p hp ((W.ip ht p).2 hi),fun h p hp hi=>h p hp ((W.ip ht p).1 hi)⟩
theorem Wn.rea{x y:Nat→Int}(h:tv n x y):tv (am n) x y:=by
 induction h with
 |refl=>exact .refl
 |step t _ ht he ih=>
  rw[←W.fire ht];exact .step t ih (by rw[W.clen];omega) ((W.en ht _).2 he)
theorem Wn.enS(x:Nat→Int):EnN (am n) x n.2.1.length↔1≤x n.2.2.2.1.toNat:=by
 have:=W.src;constructor
 ·intro h;exact h _ (by show n.2.2.2.1.toNat<n.1.toNat;omega) ((W.ipS _).2 rfl)
 ·intro h p _ hi;rw[(W.ipS p).1 hi];exact h
theorem Wn.fireS(x:Nat→Int)(p:Nat):FC.fire (Ip (am n)) (Op (am n)) x n.2.1.length p=x p-e1 n.2.2.2.1.toNat p+e1 n.2.2.1.toNat p:=by
 unfold FC.fire e1;rw[ifc (W.ipS p),ifc (W.opS p)]
theorem Wn.backS:FC.fire (Ip (am n)) (Op (am n)) (e1 n.2.2.2.1.toNat) n.2.1.length=e1 n.2.2.1.toNat:=by
 funext p;rw[W.fireS];omega
theorem Wn.high{m y:Nat→Int}(h:tv (am n) m y){p:Nat}(hp:n.1.toNat≤p):y p=m p:=by
 induction h with
 |refl=>rfl
 |step t _ ht he ih=>
  obtain⟨_,h1,h2⟩:=W.cin ht;unfold FC.fire;rw[if_neg fun hi:Ip (am n) t p=>by have:=h1 _ hi;omega,if_neg fun hi:Op (am n) t p=>by have:=h2 _ hi;omega,ih];omega
theorem Wn.m0:∀p,0≤e1 n.2.2.1.toNat p:=fun p=>by unfold e1;split<;>omega
section
variable {Y : Nat → Int} (hY : ∀ p, p < n.1.toNat → 0 < Y p) (hS : FC.SInv n.1.toNat (am n).2.1.length (Ip (am n)) (Op (am n)) Y)
include hY hS
theorem Wn.weq{x y:Nat→Int}(hx:tv (am n) (e1 n.2.2.1.toNat) x)(hy:tv (am n) (e1 n.2.2.1.toNat) y)(hle:∀p,p<n.1.toNat→x p≤y p):∀p,p<n.1.toNat→x p=y p:=fun p hp=>by
 have h1:=FC.weigh hS hx;have h2:=FC.weigh hS hy;have h3:af (fun p=>Y p*(y p-x p)) n.1.toNat=0:=by
  rw[aj (g:=fun p=>Y p*y p-Y p*x p) fun p _=>Int.mul_sub _ _ _,FC.sumN_sub];have e1:af (fun p=>Y p*y p) n.1.toNat=_:=h2;have e2:af (fun p=>Y p*x p) n.1.toNat=_:=h1;omega
 have h4:=FC.sumN_nz (fun k hk=>Int.mul_nonneg (Int.le_of_lt (hY k hk)) (by have:=hle k hk;omega)) h3 p hp;have:=hY p hp;rcases Int.mul_eq_zero.1 h4 with h5|h5<;>omega
theorem Wn.propA{y:Nat→Int}(hy:tv (am n) (e1 n.2.2.1.toNat) y)(h1:1≤y n.2.2.2.1.toNat):y=e1 n.2.2.2.1.toNat:=by
 have hsrc:=W.src;have hz:tv (am n) (e1 n.2.2.1.toNat) (FC.fire (Ip (am n)) (Op (am n)) y n.2.1.length):= .step _ hy (by rw[W.clen];omega) ((W.enS y).2 h1);have hnn:=hy.nn fun p _=>W.m0 p
 have:=W.weq hY hS .refl hz fun p hp=>by
  rw[W.fireS];have h2:=hnn p hp;have h3:e1 n.2.2.2.1.toNat p≤y p:=by
   unfold e1;split
   ·rename_i e;rw[e];exact h1
   ·exact h2
  omega
 funext p;by_cases hp:p<n.1.toNat
 ·have h2:=this p hp;rw[W.fireS]at h2;omega
 ·rw[W.high hy (by omega)];unfold e1;rw[if_neg (by omega),if_neg (by omega)]
theorem Wn.backA{y:Nat→Int}(hy:tv (am n) (e1 n.2.2.1.toNat) y):tv n (e1 n.2.2.1.toNat) y:=by
 induction hy with
 |refl=>exact .refl
 | @step y t hr ht he ih=>
  rw[W.clen]at ht;by_cases hlt:t<n.2.1.length
  ·rw[W.fire hlt];exact .step t ih hlt ((W.en hlt _).1 he)
  ·obtain rfl:t=n.2.1.length:=by omega
   rw[W.propA hY hS hr ((W.enS y).1 he),W.backS];exact .refl
variable (hL : FC.Live n.1.toNat (am n).2.1.length (Ip (am n)) (Op (am n)) (e1 n.2.2.1.toNat))
include hL
theorem Wn.compA{y:Nat→Int}(hy:tv n (e1 n.2.2.1.toNat) y):tv n y (e1 n.2.2.2.1.toNat):=by
 obtain⟨z,hz,he⟩:=hL n.2.1.length (by rw[W.clen];omega) y (W.rea hy);have h1:=(W.enS z).1 he;have key:∀{z:Nat→Int},tv (am n) y z→tv n y z∨∃u,tv n y u∧1≤u n.2.2.2.1.toNat:=fun{z} hz=>by
  induction hz with
  |refl=>exact .inl .refl
  | @step z t hr ht he ih=>
   rcases ih with ih|ih
   ·rw[W.clen]at ht;by_cases hlt:t<n.2.1.length
    ·rw[W.fire hlt];exact .inl (.step t ih hlt ((W.en hlt _).1 he))
    ·obtain rfl:t=n.2.1.length:=by omega
     exact .inr ⟨z,ih,(W.enS z).1 he⟩
   ·exact .inr ih
 obtain⟨u,hu,h2⟩:∃u,tv n y u∧1≤u n.2.2.2.1.toNat:=by
  rcases key hz with h|h
  ·exact⟨z,h,h1⟩
  ·exact h
 rw[←W.propA hY hS (W.rea (hy.trans hu)) h2];exact hu
theorem Wn.fireA{t:Nat}(ht:t<n.2.1.length):∃y,tv n (e1 n.2.2.1.toNat) y∧EnN n y t:=by
 obtain⟨y,hy,he⟩:=hL t (by rw[W.clen];omega) _ .refl;exact⟨y,W.backA hY hS hy,(W.en ht _).1 he⟩
end
section
variable (hp : ∀ y, tv n (e1 n.2.2.1.toNat) y → 1 ≤ y n.2.2.2.1.toNat → y = e1 n.2.2.2.1.toNat) (hc : ∀ y, tv n (e1 n.2.2.1.toNat) y → tv n y (e1 n.2.2.2.1.toNat)) (hfi : ∀ t, t < n.2.1.length → ∃ y, tv n (e1 n.2.2.1.toNat) y ∧ EnN n y t)
include hp
theorem Wn.backB{y:Nat→Int}(hy:tv (am n) (e1 n.2.2.1.toNat) y):tv n (e1 n.2.2.1.toNat) y:=by
 induction hy with
 |refl=>exact .refl
 | @step y t hr ht he ih=>
  rw[W.clen]at ht;by_cases hlt:t<n.2.1.length
  ·rw[W.fire hlt];exact .step t ih hlt ((W.en hlt _).1 he)
  ·obtain rfl:t=n.2.1.length:=by omega
   rw[hp y ih ((W.enS y).1 he),W.backS];exact .refl
include hc hfi
theorem Wn.liveB:FC.Live n.1.toNat (am n).2.1.length (Ip (am n)) (Op (am n)) (e1 n.2.2.1.toNat):=fun t ht x hx=>by
 have h1:=hc x (W.backB hp hx);have hen:EnN (am n) (e1 n.2.2.2.1.toNat) n.2.1.length:=(W.enS _).2 (by unfold e1;rw[if_pos rfl];exact Int.le_refl _);rw[W.clen]at ht;by_cases hlt:t<n.2.1.length
 ·obtain⟨y,hy,he⟩:=hfi t hlt;have h2:tv (am n) x (e1 n.2.2.1.toNat):=by
   have h3:tv (am n) x (FC.fire (Ip (am n)) (Op (am n)) (e1 n.2.2.2.1.toNat) n.2.1.length):= .step _ (W.rea h1) (by rw[W.clen];omega) hen;rwa[W.backS]at h3
  exact⟨y,h2.trans (W.rea hy),(W.en hlt _).2 he⟩
 ·obtain rfl:t=n.2.1.length:=by omega
  exact⟨_,W.rea h1,hen⟩
end
end
theorem q9d{m c:Nat}{A:Nat→Nat→Int}:∀L:Rw,(∀r∈L,Sol m c A (fn r))→∃y,Sol m c A y∧∀i,i<m→∀r∈L,0<fn r i→0<y i
 |[],_=>⟨fun _=>0,⟨fun _ _=>Int.le_refl _,fun j _=>bw fun i _=>Int.zero_mul _⟩,fun _ _ r hr=>by cases hr⟩
 |r::L,h=>by
  obtain⟨y,hy,hp⟩:=q9d L fun r hr=>h r (List.mem_cons_of_mem _ hr)
  have hr:=h r List.mem_cons_self;refine⟨fun i=>fn r i+y i,⟨fun i hi=>by have:=hr.1 i hi;have:=hy.1 i hi;dsimp only;omega,fun j hj=> ?_⟩,fun i hi q hq h0=> ?_⟩
  ·have e:af (fun i=>(fn r i+y i)*A i j) m=af (fun i=>fn r i*A i j) m+af (fun i=>y i*A i j) m:=by
    rw[←sn];exact aj fun i _=>Int.add_mul _ _ _
   show af (fun i=>(fn r i+y i)*A i j) m=0;rw[e,hr.2 j hj,hy.2 j hj];rfl
  ·have h1:=hr.1 i hi;have h2:=hy.1 i hi;dsimp only;rcases List.mem_cons.1 hq with rfl|hq
   ·omega
   ·have:=hp i hi q hq h0;omega
theorem jjo{m c:Nat}{A:Nat→Nat→Int}{d:Rw}(hM:Mins m c A d)(h:qoz d m=true):∃y,Sol m c A y∧∀i,i<m→0<y i:=by
 obtain⟨y,hy,hp⟩:=q9d d fun r hr=>(hM.min r hr).1
 refine⟨y,hy,fun i hi=> ?_⟩;unfold qoz at h;simp only[List.all_eq_true,List.mem_range,List.any_eq_true,decide_eq_true_eq]at h;obtain⟨r,hr,h0⟩:=h i hi;exact hp i hi r hr h0
theorem jo0{m c:Nat}{A:Nat→Nat→Int}{d:Rw}(hM:Mins m c A d)(h:∀i,i<m→∃y,Sol m c A y∧0<y i):qoz d m=true:=by
 unfold qoz;simp only[List.all_eq_true,List.mem_range,List.any_eq_true,decide_eq_true_eq];intro i hi;obtain⟨y,hy,h0⟩:=h i hi;obtain⟨z,hz,hpz,_,hz0⟩:=jh2 hy hi (by omega);obtain⟨x,hx,he⟩:=hM.cov z hz hpz;have h1:=hz.1.1 i hi;have h2:fn x i=z i:=he i hi;exact⟨x,hx,by show 0<fn x i;omega⟩
theorem jvj{c:bp}{y:Nat→Int}:Sol c.2.1.length c.1.toNat (AT c) y↔(∀i,i<c.2.1.length→0≤y i)∧FC.TInv c.1.toNat c.2.1.length (Ip c) (Op c) y:=by
 have:∀p,af (fun t=>y t*FC.inc (Ip c) (Op c) t p) c.2.1.length=af (fun t=>y t*AT c t p) c.2.1.length:=fun p=>aj fun t _=>by rw[q5n];rfl
 unfold Sol FC.TInv;simp only[this]
theorem jvi{c:bp}{y:Nat→Int}:Sol c.1.toNat c.2.1.length (AP c) y↔(∀i,i<c.1.toNat→0≤y i)∧FC.SInv c.1.toNat c.2.1.length (Ip c) (Op c) y:=by
 have:∀t,af (fun p=>y p*FC.inc (Ip c) (Op c) t p) c.1.toNat=af (fun p=>y p*AP c p t) c.1.toNat:=fun t=>aj fun p _=>by rw[q5n]
 unfold Sol FC.SInv;simp only[this]
section
variable {n : bp} (W : Wn n) (hN : n.1.toNat ≤ 12) (hf : qt4 (am n)) {r : Nat} (hC : Cond (am n) r)
include W hN hf hC
theorem Wn.yes(hP:qoz (ql9 (am n)).1 n.1.toNat=true)(hT:qoz (qop (am n)).1 (am n).2.1.length=true)(hr:r+1=nCl n)(ha:qfs n.2.2.1 (srt (fu (am n) n.1.toNat))=true):
  (∃Y:Nat→Int,(∀p,p<n.1.toNat→0<Y p)∧FC.SInv n.1.toNat (am n).2.1.length (Ip (am n)) (Op (am n)) Y)∧FC.Live n.1.toNat (am n).2.1.length (Ip (am n)) (Op (am n)) (e1 n.2.2.1.toNat):=by
 have hsrc:=W.src;obtain⟨Y,hY,hYp⟩:=jjo (q94 hf hC.p0) hP;obtain⟨x,hx,hxp⟩:=jjo (q95 hf hC.t0) hT;have hY:=(jvi (c:=am n)).1 hY;have hx:=(jvj (c:=am n)).1 hx;refine⟨⟨Y,hYp,hY.2⟩,FC.live_rank W.cl W.sc hxp hx.2 hC.rk hr (fun p _=>W.m0 p) fun Z hZ hS ⟨p1,hp1,hZp⟩=> ?_⟩;have hsip:FC.Siphon n.1.toNat (am n).2.1.length (Ip (am n)) (Op (am n)) (fun p=>0<Z p):=fun t ht p hp ho h0=>by
  have h1:=hS t ht;rw[FC.balP]at h1;have h2:=FC.sumN_term (n:=n.1.toNat) (f:=fun p=>if Op (am n) t p then Z p else 0) (fun k hk=>by have:=hZ k;split<;>omega) p hp;rw[if_pos ho]at h2;refine Classical.byContradiction fun hc=> ?_
  have h3:af (fun p=>if Ip (am n) t p then Z p else 0) n.1.toNat=0:=bw fun q hq=>by
   by_cases hi:Ip (am n) t q
   ·rw[if_pos hi];have:=hZ q;have:¬0<Z q:=fun h=>hc ⟨q,hq,hi,h⟩
    omega
   ·rw[if_neg hi]
  omega
 obtain⟨V,hV⟩:=jq8 W.cok (fun p=>0<Z p);have hcl:=jin W.cok hV hsip;obtain⟨k,hk,hmin,hsub⟩:=juc (n:=am n) hN (W:=V) (fun x hx=>by
  obtain⟨p,hp,_,rfl⟩:=(hV x).1 hx;have hp:p<n.1.toNat:=hp;omega) hcl (fun e=>by
  have:=(hV (p1:Int)).2 ⟨p1,hp1,hZp,rfl⟩;rw[e]at this;cases this)
 have hmem:ij n.1.toNat k∈srt (fu (am n) n.1.toNat):=jkr.2 ⟨k,hk,hmin,rfl⟩;have h1:=List.all_eq_true.1 ha _ hmem;have h2:=hsub _ (f9.1 h1);obtain⟨p,hp,hpos,he⟩:=(hV _).1 h2;have hp:p<n.1.toNat:=hp;obtain rfl:p=n.2.2.1.toNat:=by omega
 rw[fc (i:=n.2.2.1.toNat) hp fun q _ hne=>by unfold e1;rw[if_neg hne,Int.mul_zero]];unfold e1;rw[if_pos rfl,Int.mul_one];exact hpos
theorem Wn.must(hL:FC.Live n.1.toNat (am n).2.1.length (Ip (am n)) (Op (am n)) (e1 n.2.2.1.toNat)){Bd:Nat}(hb:∀y,tv (am n) (e1 n.2.2.1.toNat) y→∀p,p<n.1.toNat→y p≤Bd):
  qoz (ql9 (am n)).1 n.1.toNat=true∧qoz (qop (am n)).1 (am n).2.1.length=true∧r+1=nCl n∧qfs n.2.2.1 (srt (fu (am n) n.1.toNat))=true:=by
 have hsrc:=W.src;have hT0:0<(am n).2.1.length:=by rw[W.clen];omega
 obtain⟨x,hx,hxT⟩:=FC.pos_inv W.cl W.sc (fun p _=>W.m0 p) hL hb hT0;have hr:r+1=nCl n:=by
  have h1:=FC.rank_ge W.cl W.sc hx hxT hC.rk;have h2:=FC.rank_le W.cl W.sc (fun p _=>W.m0 p) hL hb hT0 hC.rk;omega
 refine⟨jo0 (q94 hf hC.p0) fun p hp=> ?_,jo0 (q95 hf hC.t0) fun t ht=>⟨x,(jvj (c:=am n)).2 ⟨fun i hi=>Int.le_of_lt (hx i hi),hxT⟩,hx t ht⟩,hr,?_⟩
 ·obtain⟨Y,hY,hYp,hS⟩:=FC.scover W.cl W.sc hx hxT hC.rk hr hp;exact⟨Y,(jvi (c:=am n)).2 ⟨fun i _=>hY i,hS⟩,hYp⟩
 ·refine List.all_eq_true.2 fun row hrow=>Classical.byContradiction fun hno=> ?_
  obtain⟨k,hk,hmin,rfl⟩:=jkr.1 hrow;have hno:n.2.2.1∉ij n.1.toNat k:=fun h=>hno (f9.2 h)
  obtain⟨hcl,h1⟩:=jmx hmin;have hsip:=jg9 W.cok hcl;obtain⟨z,hz⟩:=List.exists_mem_of_ne_nil _ (jsg h1 hk);obtain⟨p,hp,_,rfl⟩:=qft.1 hz;obtain⟨t,ht,hi⟩:=W.used hp;obtain⟨y,hy,he⟩:=hL t ht _ .refl;have hempty:∀{y:Nat→Int},tv (am n) (e1 n.2.2.1.toNat) y→∀q,q<n.1.toNat→(q:Int)∈ij n.1.toNat k→y q=0:=fun{y} hy=>by
   induction hy with
   |refl=>
    intro q hq hm;unfold e1;exact if_neg fun e=>hno (by rw[show n.2.2.1=(q:Int) by omega];exact hm)
   | @step y u hr hu hen ih=>
    intro q hq hm;have h2:=ih q hq hm;have hnn:=(FC.Rea.step u hr hu hen).nn (fun p _=>W.m0 p) q hq;unfold FC.fire at hnn⊢;by_cases ho:Op (am n) u q
    ·obtain⟨v,hv,hiv,hmv⟩:=hsip u hu q hq ho hm;have h3:=hen v hv hiv;rw[ih v hv hmv]at h3;omega
    ·rw[if_neg ho]at hnn⊢;by_cases hiq:Ip (am n) u q
     ·rw[if_pos hiq]at hnn⊢;omega
     ·rw[if_neg hiq]at hnn⊢;omega
  have h3:=he p hp hi;rw[hempty hy p hp hz]at h3;omega
end
end Go.Proofs.YtclbndfjhjladaaGreat
