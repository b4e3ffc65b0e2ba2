/-
  TopBounds: flow.dot, flow.Bound, and the law.
-/
import Derived.Test.YtemahcdcacmgdaaGreatDoorZ3C9
import Derived.Test.YtemahcdcacmgdaaGreatDoorZ3B1
set_option linter.all false
namespace Go.Proofs.YtemahcdcacmgdaaGreatDoor
open Go.K Go.M
theorem jtm{l:List Int}{x:Int}:jlo l x=true↔x∈l:=by
 unfold jlo;rw[List.any_eq_true];exact⟨fun⟨y,hy,e⟩=>by rw[of_decide_eq_true e];exact hy,fun h=>⟨x,h,decide_eq_true rfl⟩⟩
theorem j2o(T:ah)(q:Nat):dl T q=jio T (q:Int):=by
 unfold jio dl;by_cases h1:(q:Int)∈T.2.1<;>by_cases h2:(q:Int)∈T.2.2.1<;>simp[h1,h2,jtm]
theorem j0k(x m:List Int)(hl:x.length≤40)(hm:x.length≤m.length)(hx:∀i,0≤x.getD i 0∧x.getD i 0≤1048576)(hb:∀i,i<m.length→0≤m.getD i 0∧m.getD i 0≤100):
  qx7 x m=some (au (fun q=>x.getD q 0*m.getD q 0) x.length)∧0≤au (fun q=>x.getD q 0*m.getD q 0) x.length∧au (fun q=>x.getD q 0*m.getD q 0) x.length≤4194304000:=by
 have pr:∀k,k<x.length→0≤x.getD k 0*m.getD k 0∧x.getD k 0*m.getD k 0≤104857600:=fun k hk=>by
  have h1:=hx k;have h2:=hb k (by omega);refine⟨Int.mul_nonneg h1.1 h2.1,?_⟩;have:=Int.mul_le_mul h1.2 h2.2 h2.1 (by omega);omega
 have hs:∀k,k≤x.length→0≤au (fun q=>x.getD q 0*m.getD q 0) k∧au (fun q=>x.getD q 0*m.getD q 0) k≤104857600*(k:Int):=by
  intro k
  induction k with
  |zero=>intro _;exact⟨Int.le_refl _,Int.le_refl _⟩
  |succ k ih=>
   intro hk;have h1:=ih (by omega);have h2:=pr k (by omega);show 0≤au (fun q=>x.getD q 0*m.getD q 0) k+x.getD k 0*m.getD k 0∧au (fun q=>x.getD q 0*m.getD q 0) k+x.getD k 0*m.getD k 0≤_;omega
 have e1:q77 x m (x.length:Int) (0,0)=some (.inl (au (fun q=>x.getD q 0*m.getD q 0) x.length)):=by
  refine ct (fun k:Nat=>(au (fun q=>x.getD q 0*m.getD q 0) k,(k:Int))) x.length (bw (by omega)) _ (fun k hk=> ?_) ?_ _ rfl
  ·have h1:=hs k (by omega);have h2:=pr k hk;simp(disch:=omega)only[qiw,rs];rw[al];rfl
  ·simp(disch:=omega)only[qiw,rs]
 refine⟨?_,(hs _ (Nat.le_refl _)).1,by have:=hs _ (Nat.le_refl _);omega⟩;unfold qx7;rw[e1,bi];rfl
theorem jf8{n:b8}(h:Small n){m:List Int}(hv:dp n=true)(hm:ch n.1 m=true)(hl:m.length≤1000000):qf2 n m=some true:=by
 unfold qf2;rw[qmn h m hl,hv,hm];rfl
def Lim(n:b8)(m:List Int)(p:Nat)(l:Int):Prop:=∃Y,q0m n Y∧Y p≠0∧l=Int.tdiv (au (fun q=>Y q*m.getD q 0) n.1.toNat) (Y p)
theorem jpt{n:b8}{m:List Int}(h:Small n)(hf:jo0 n)(hv:dp n=true)(hm:ch n.1 m=true){p:Nat}(hp:p<n.1.toNat):
  ∃l e,qck n m (p:Int)=some (l,e)∧(e=0→Lim n m p l):=by
 have hN:=s9 hv;obtain⟨hml,hmb⟩:=d7.1 hm;have hE:=jf8 h hv hm (by omega);have ho:=jwy (n:=n);have hol:=ho.len;unfold qck;rw[hE,bi,qw1,t7,qta (by omega),q6m (by omega),jo2 h hf,bi];by_cases h0:(ue n).2=0
 ·have hmin:=jqi hf h0;have hS:∀x∈(ue n).1,q0m n (fn x):=fun x hx=>⟨fun q=>((ho.row x hx).2 q).1,fun t ht=>(bu fun q _=>by rw[j2o];rfl).trans ((hmin.min x hx).1.2 t ht)⟩
  have key:∃o,qx5 m (p:Int) (ue n).1 ((ue n).1.length:Int) (-1,0)=some o∧∃b,o= .inl b∧(0≤b→Lim n m p b):=by
   refine qg3 (fun s:Int×Int=>∃k:Nat,s.2=(k:Int)∧k≤(ue n).1.length∧(0≤s.1→Lim n m p s.1)) (fun s=>(((ue n).1.length:Int)-s.2).toNat) (fun o:Int⊕(Int×Int)=>∃b,o= .inl b∧(0≤b→Lim n m p b)) _ ⟨0,rfl,Nat.zero_le _,fun h=>absurd h (by decide)⟩ (by show(((ue n).1.length:Int)-0).toNat<many;exact bw (by omega)) ?_;rintro⟨b,_⟩ ⟨k,rfl,hk,hb⟩;simp only at hb;by_cases hlt:k<(ue n).1.length
   ·have hxm:=ba [] hlt;obtain⟨hxl,hxr⟩:=ho.row _ hxm;obtain⟨hd,hd0,hd1⟩:=j0k ((ue n).1.getD k []) m (by omega) (by omega) hxr hmb;have hY:=hS _ hxm;have hu:(((ue n).1.length:Int)-((k+1:Nat):Int)).toNat<(((ue n).1.length:Int)-(k:Int)).toNat:=by omega
    by_cases hz:((ue n).1.getD k []).getD p 0=0
    ·exact⟨.next (b,((k+1:Nat):Int)),by simp(disch:=omega)only[ni,rs];rw[al],⟨k+1,rfl,hlt,hb⟩,hu⟩
    ·have hq:=jg3 (g:=((ue n).1.getD k []).getD p 0) (b:=4194304000) (x:=au (fun q=>((ue n).1.getD k []).getD q 0*m.getD q 0) ((ue n).1.getD k []).length) ⟨by omega,hd1⟩;have hL:Lim n m p (Int.tdiv (au (fun q=>((ue n).1.getD k []).getD q 0*m.getD q 0) ((ue n).1.getD k []).length) (((ue n).1.getD k []).getD p 0)):=⟨_,hY,hz,by rw[hxl];rfl⟩;generalize au (fun q=>((ue n).1.getD k []).getD q 0*m.getD q 0) ((ue n).1.getD k []).length=S at hd hd0 hd1 hq hL;by_cases hb0:b<0
     ·exact⟨.next (Int.tdiv S (((ue n).1.getD k []).getD p 0),((k+1:Nat):Int)),by simp(disch:=omega)only[ni,hd,rs];rw[al],⟨k+1,rfl,hlt,fun _=>hL⟩,hu⟩
     ·by_cases hlb:Int.tdiv S (((ue n).1.getD k []).getD p 0)<b
      ·exact⟨.next (Int.tdiv S (((ue n).1.getD k []).getD p 0),((k+1:Nat):Int)),by simp(disch:=omega)only[ni,hd,rs];rw[al],⟨k+1,rfl,hlt,fun _=>hL⟩,hu⟩
      ·exact⟨.next (b,((k+1:Nat):Int)),by simp(disch:=omega)only[ni,hd,rs];rw[al],⟨k+1,rfl,hlt,hb⟩,hu⟩
   ·obtain rfl:k=(ue n).1.length:=by omega
    exact⟨.done b,by simp(disch:=omega)only[ni,rs],b,rfl,hb⟩
  obtain⟨_,hL,b,rfl,hb⟩:=key;rw[qmr h0,hL,bi,zk];by_cases hb0:b<0
  ·exact⟨0,30,by rw[q7a hb0],fun h=>absurd h (by decide)⟩
  ·exact⟨b,0,by rw[qta (by omega)],fun _=>hb (by omega)⟩
 ·exact⟨0,(ue n).2,by rw[jrv h0],fun h=>absurd h h0⟩
theorem j2x{n:b8}{m:List Int}{p:Nat}{l:Int}(hp:p<n.1.toNat)(hL:Lim n m p l){ns:List ae}{st:List (List Int)}(C:CI n m ns.length 0 ns st):∀s∈st,s.getD p 0≠-1∧s.getD p 0≤l:=by
 obtain⟨Y,hY,hYp,rfl⟩:=hL;intro s hs;obtain⟨h1,h2⟩:=C.inv Y hY s hs;have hx:=C.sx s hs;have hxl:=hx.1;have h3:s.getD p 0≠-1:=fun h=>hYp (h1 p hp h)
 refine⟨h3,?_⟩;have hp0:0<Y p:=by have:=hY.1 p;omega
 have nn:∀q,q<n.1.toNat→0≤Y q*s.getD q 0:=fun q hq=>by
  by_cases h4:s.getD q 0= -1
  ·rw[h1 q hq h4];omega
  ·have:=hx.2 q (by omega);exact Int.mul_nonneg (hY.1 q) (by omega)
 have le:∀(f:Nat→Int) (k:Nat),(∀q,q<k→0≤f q)→∀q,q<k→f q≤au f k:=by
  intro f k
  induction k with
  |zero=>intro _ q hq;exact absurd hq (Nat.not_lt_zero q)
  |succ k ih=>
   intro hf q hq;have h5:=q62 (n:=k) fun j hj=>hf j (by omega)
   have h6:=hf k (by omega);show f q≤au f k+f k;by_cases e:q=k
   ·subst e;omega
   ·have:=ih (fun j hj=>hf j (by omega)) q (by omega);omega
 have h7:=le _ _ nn p hp;rw[h2]at h7;have h8:=q62 nn;rw[h2]at h8;rw[Int.tdiv_eq_ediv_of_nonneg h8];exact(Int.le_ediv_iff_mul_le hp0).2 (by rw[Int.mul_comm];exact h7)
def mxN(f:Nat→Int):Nat→Int
 |0=>0
 |k+1=>max (mxN f k) (f k)
theorem jlr(f:Nat→Int):∀k,0≤mxN f k∧(∀j,j<k→f j≤mxN f k)∧(mxN f k=0∨∃j,j<k∧f j=mxN f k)
 |0=>⟨Int.le_refl _,fun j hj=>absurd hj (Nat.not_lt_zero j), .inl rfl⟩
 |k+1=>by
  obtain⟨h1,h2,h3⟩:=jlr f k;refine⟨by show 0≤max (mxN f k) (f k);omega,fun j hj=> ?_,?_⟩
  ·show f j≤max (mxN f k) (f k);by_cases e:j=k
   ·subst e;omega
   ·have:=h2 j (by omega);omega
  ·show max (mxN f k) (f k)=0∨∃j,j<k+1∧f j=max (mxN f k) (f k);by_cases hc:mxN f k≤f k
   ·exact .inr ⟨k,by omega,by omega⟩
   ·rcases h3 with h3|⟨j,hj,e⟩
    ·exact .inl (by omega)
    ·exact .inr ⟨j,by omega,by omega⟩
theorem j0s(n:b8):∃b,qf8 n=some b∧(b=true→n.1≤12∧n.2.1.length≤14∧∀t∈n.2.1,t.2.1.length≤20∧t.2.2.1.length≤20):=by
 unfold qf8;by_cases h1:n.1≤12
 ·by_cases h2:n.2.1.length≤14
  ·let q:ah→Bool:=fun t=>decide ((20:Int)<(t.2.1.length:Int))||(decide ((20:Int)<(t.2.2.1.length:Int))||decide ((100:Int)<(ByteArray.size t.1:Int)))
   have hq:∀t,qav t=some (q t):=fun t=>by
    show _=some (decide ((20:Int)<(t.2.1.length:Int))||(decide ((20:Int)<(t.2.2.1.length:Int))||decide ((100:Int)<(ByteArray.size t.1:Int))));unfold qav;cases decide ((20:Int)<(t.2.1.length:Int))<;>cases decide ((20:Int)<(t.2.2.1.length:Int))<;>rfl
   have hL:gh n.2.1 (n.2.1.length:Int) 0=some (jfh (fun i=>(i:Int)) (me q n.2.1)):=by
    refine ya n.2.1 ah.z q (fun i=>(i:Int)) (by omega) (fun i hi=> ?_) ?_
    ·simp(disch:=omega)only[ce,hq,rs];rw[al];cases q (n.2.1.getD i ah.z)<;>rfl
    ·simp(disch:=omega)only[ce,rs]
   have hC:cd n.2.1=some (n.2.1.any q):=by
    unfold cd d6;rw[hL,bi,qnq,bi,qnp]
   rw[jep h1,jep (by omega),hC,bi];refine⟨_,rfl,fun h=>⟨h1,h2,fun t ht=> ?_⟩⟩;have h3:n.2.1.any q=false:=by simpa using h
   have h4:=List.any_eq_false.1 h3 t ht;rw[Bool.not_eq_true,Bool.or_eq_false_iff,Bool.or_eq_false_iff,decide_eq_false_iff_not,decide_eq_false_iff_not]at h4;omega
  ·exact⟨false,by rw[jep h1,q6m (by omega)],fun h=>absurd h (by decide)⟩
 ·exact⟨false,by rw[q6m (by omega)],fun h=>absurd h (by decide)⟩
theorem j2v{n:b8}{st:List (List Int)}(hl:st.length≤1000000)(h:∀x∈st,(x.length:Int)=n.1):db st n=some false:=by
 have hL:rn st n (st.length:Int) 0=some (jfh (fun i=>(i:Int)) (me (fun x=> !decide ((x.length:Int)=n.1)) st)):=by
  refine ya st [] (fun x=> !decide ((x.length:Int)=n.1)) (fun i=>(i:Int)) (by omega) (fun i hi=> ?_) ?_
  ·simp(disch:=omega)only[fa,qfg,rs];rw[al];cases decide (((st.getD i []).length:Int)=n.1)<;>rfl
  ·simp(disch:=omega)only[fa,rs]
 unfold db kj;rw[hL,bi,qnq,bi,qnp];congr 1;exact List.any_eq_false.2 fun x hx=>by rw[h x hx,decide_eq_true rfl];decide
section
variable {n : b8} {m : List Int} {st : List (List Int)} {p : Nat} {N : Int} (hN : (p : Int) < N ∧ N ≤ 1000) (hst : st.length ≤ 1000000) (hsl : ∀ x ∈ st, p < x.length)
include hN hst hsl
theorem jwr(ok:Bool)(b g v77:Int)(n1 n3 n4:Int)(n2:List ah)(mv:List ar)(full:Bool):
  qpn m ok (p:Int) b g N v77 st (st.length:Int) n1 n2 n3 n4 st mv full (0,0)=some (.inl (mxN (fun j=>(st.getD j []).getD p 0) st.length)):=by
 refine ct (fun k:Nat=>(mxN (fun j=>(st.getD j []).getD p 0) k,(k:Int))) st.length (bw (by omega)) _ (fun k hk=> ?_) ?_ _ rfl
 ·have hx:=hsl _ (ba [] hk);simp(disch:=omega)only[uf,rs];rw[al];rfl
 ·simp(disch:=omega)only[uf,rs]
theorem juh{b l e:Int}{ok full:Bool}{mv:List ar}(hB:xy n m (p:Int) 300=some (b,0))(hF:qck n m (p:Int)=some (l,e))
  (h1:b≠-1→mxN (fun j=>(st.getD j []).getD p 0) st.length≤b) (h2:full=true→b=mxN (fun j=>(st.getD j []).getD p 0) st.length) (h3:ok=true→b≠-1) (h4:e=0→b≠-1∧b≤l):
  ij m ok N n.1 n.2.1 n.2.2.1 n.2.2.2.1 st mv full (p:Int) (fun a' =>some (LR.next a')) (fun e=>some (.done e)) (fun r=>some (.ret r))=some (.next (((p+1:Nat):Int)):LR Int Unit Bool):=by
 have e0:=jlr (fun j=>(st.getD j []).getD p 0) st.length;have eB:xy (n.1,n.2.1,n.2.2.1,n.2.2.2.1,()) m (p:Int) 300=some (b,0):=hB;have eF:qck (n.1,n.2.1,n.2.2.1,n.2.2.2.1,()) m (p:Int)=some (l,e):=hF;have eM:=fun g v77 n1 n3 n4 n2 (mv:List ar)=>jwr (m:=m) hN hst hsl ok b g v77 n1 n3 n4 n2 mv full
 have e1:∀v76 v77,cp m ok (p:Int) b v76 v77 false n.1 n.2.1 n.2.2.1 n.2.2.2.1 st mv full=some (.inl ()):=fun _ _=>rfl
 have e2:∀v76 v77,cg m ok (p:Int) b v76 v77 n.1 n.2.1 n.2.2.1 n.2.2.2.1 st mv full=some (.inl ()):=fun v76 v77=>by
  unfold cg qda;rw[eF,bi];by_cases h:e=0
  ·have:=h4 h;simp(disch:=omega)only[rs]
  ·simp(disch:=omega)only[rs]
 generalize mxN (fun j=>(st.getD j []).getD p 0) st.length=M at*;have hlt:(p:Int)<N:=hN.1;cases full with
 |true=>
  obtain rfl:=h2 rfl;have hb:b≠-1:=by omega
  have hd:decide (b= -1)=false:=decide_eq_false hb;cases ok<;>simp(disch:=omega)only[ij,eB,eM,e1,e2,hd,rs]<;>rw[al]
 |false=>
  by_cases hb:b= -1
  ·subst hb;cases ok with
   |true=>exact absurd rfl (h3 rfl)
   |false=>simp(disch:=omega)only[ij,eB,eM,e1,e2,rs];rw[al]
  ·have hd:decide (b= -1)=false:=decide_eq_false hb;have:=h1 hb;cases ok<;>simp(disch:=omega)only[ij,eB,eM,e1,e2,hd,rs]<;>rw[al]
end
theorem jft{n:b8}{m:List Int}{σ:Sig}(hs:SpcOK n 60 m σ)(hf:σ.1=true):FullS n m σ.2.1:=by
 refine⟨hs.sp.len,?_,hs.sp.mks,fun s hsm t ht hc=> ?_⟩
 ·rw[←hs.fst];exact ba [] hs.sp.pos
 ·obtain⟨a,ha,rfl⟩:=rf [] hsm;obtain⟨b,hb⟩:=hs.full hf a t ha ht hc;obtain⟨a',b',t',e,_,gb,_,_,gf⟩:=hs.mv _ hb;obtain⟨rfl,rfl,rfl⟩:=jtw e;show cj (li n t) (dz σ a)∈_;rw[gf];exact ba [] gb
theorem jth(n:b8)(m:List Int):qkc n m=some true:=by
 obtain⟨b0,hb0,hfew⟩:=j0s n;unfold qkc;rw[show qhy=some true from rfl,bi,qw1,t7,hb0,bi];cases b0 with
 |false=>rfl
 |true=>
  obtain⟨hn1,hn2,hn3⟩:=hfew rfl;rw[qw1,t7];by_cases hml:(20:Int)<(m.length:Int)
  ·rw[q7a hml]
  ·have h:Small n:=⟨by omega,fun t ht=>by have:=hn3 t ht;omega,fun t ht=>by have:=hn3 t ht;omega⟩;rw[qta (by omega),jkh h m (by omega) 60 (by omega),bi];cases hvm:dp n&&ch n.1 m with
   |false=>rfl
   |true=>
    obtain⟨hv,hm⟩:=Bool.and_eq_true_iff.1 hvm;have hN:=s9 hv;have hs:SpcOK n 60 m (spc n 60 m):=j3j hm (by omega);have hsl:=hs.sp.len;have hlen:∀x∈(spc n 60 m).2.1,(x.length:Int)=n.1:=fun x hx=>(d7.1 (hs.sp.mks x hx)).1
    rw[t7,if_neg (by omega),qmr rfl];have hC8:=j2v (n:=n) (st:=(spc n 60 m).2.1) (by omega) hlen;obtain⟨b,c,e,hB,hor⟩:=jkr h hv hm;show(bnd (db (spc n 60 m).2.1 n) fun r4=>_)=_;rw[hC8,bi,qgg,hB,bi];rcases hor with⟨rfl,hno⟩|⟨rfl,hck,ns,st,hg,C,hbt,hbf⟩
    ·show some (!(spc n 60 m).1)=some true;cases hfl:(spc n 60 m).1 with
     |false=>rfl
     |true=>exact absurd (jft hs hfl) (hno _)
    ·have hT:∀full,full=(spc n 60 m).1→ly m b n.1 n.2.1 n.2.2.1 n.2.2.2.1 (spc n 60 m).2.1 (spc n 60 m).2.2 full=some (.inr true):=by
      rintro _ rfl;have e3:qpo m b n.1 n.1 n.2.1 n.2.2.1 n.2.2.2.1 (spc n 60 m).2.1 (spc n 60 m).2.2 (spc n 60 m).1 0=some (.inl ()):=by
       refine ct (fun k:Nat=>(k:Int)) n.1.toNat (bw (by omega)) _ (fun p hp=> ?_) ?_ _ rfl
       ·have hpN:(p:Int)<n.1∧n.1≤1000:=by omega
        have hpx:∀x∈(spc n 60 m).2.1,p<x.length:=fun x hx=>by have:=hlen x hx;omega
        have hs6:(spc n 60 m).2.1.length≤1000000:=by omega
        obtain⟨c,hc,hcs⟩:=jpc h hv hm hg C hp;obtain⟨l,e,hF,hlim⟩:=jpt h (.inl ⟨hn1,hn2⟩) hv hm hp;have hbel:=jru h hv hm hs C;have hM:=jlr (fun j=>((spc n 60 m).2.1.getD j []).getD p 0) (spc n 60 m).2.1.length;have hle:c≠-1→mxN (fun j=>((spc n 60 m).2.1.getD j []).getD p 0) (spc n 60 m).2.1.length≤c:=fun hne=>by
         rcases hcs with⟨e,_⟩|⟨h0,hall,_⟩
         ·exact absurd e hne
         ·rcases hM.2.2 with e|⟨j,hj,e⟩
          ·omega
          ·obtain⟨s,hsm,hq⟩:=hbel j hj;have h5:=hall s hsm;have h6:=(hq p hp).resolve_left h5.1;rw[←e];exact Int.le_trans h6 h5.2
        have hno:b=true→c≠-1:=fun hb=>by
         rcases hcs with⟨rfl,s,hsm,hsp⟩|⟨h0,_⟩
         ·have h5:=d7.1 ((jk9 h hv hm C (hbt hb)).1 s hsm);have h6:=h5.2 p (by omega);omega
         ·omega
        refine juh hpN hs6 hpx hc hF hle (fun hfl=> ?_) hno (fun he=> ?_)
        ·have hFS:=jft hs hfl;obtain⟨ho,hsub⟩:=C.fl _ hFS;have hall:=(jk9 h hv hm C ho).1;rcases hcs with⟨rfl,s,hsm,hsp⟩|⟨h0,_,s,hsm,hsp⟩
         ·have h5:=d7.1 (hall s hsm);have h6:=h5.2 p (by omega);omega
         ·obtain⟨j,hj,rfl⟩:=rf [] (hsub s hsm);have h7:=hM.2.1 j hj;have h8:=hle (by omega);omega
        ·have hL:=j2x hp (hlim he) C;rcases hcs with⟨rfl,s,hsm,hsp⟩|⟨h0,_,s,hsm,hsp⟩
         ·exact absurd hsp (hL s hsm).1
         ·have:=(hL s hsm).2;exact⟨by omega,by omega⟩
       ·have hlt:¬((n.1.toNat:Int)<n.1):=by omega
        simp(disch:=omega)only[ij,rs]
      unfold ly qdb;rw[e3,bi];rfl
     rw[qmr rfl];show(bnd (jz n m c) fun r6=>_)=_;rw[hck,bi,qw1,t7];show(bif (spc n 60 m).1 then _ else _)=_;have hT:=hT _ rfl;cases hfl:(spc n 60 m).1 with
     |false=>
      rw[hfl]at hT;rw[qgg];show(bnd (ly m b n.1 n.2.1 n.2.2.1 n.2.2.2.1 (spc n 60 m).2.1 (spc n 60 m).2.2 (spc n 60 m).1) fun oe=>_)=_;rw[hfl,hT,bi];rfl
     |true=>
      have hb:b=true:=by
       cases b with
       |true=>rfl
       |false=>exact absurd (jft hs hfl) (hbf rfl _)
      rw[hfl]at hT;rw[t7,hb];show(bnd (ly m true n.1 n.2.1 n.2.2.1 n.2.2.2.1 (spc n 60 m).2.1 (spc n 60 m).2.2 (spc n 60 m).1) fun oe=>_)=_;rw[hb]at hT;rw[hfl,hT,bi];rfl
end Go.Proofs.YtemahcdcacmgdaaGreatDoor
