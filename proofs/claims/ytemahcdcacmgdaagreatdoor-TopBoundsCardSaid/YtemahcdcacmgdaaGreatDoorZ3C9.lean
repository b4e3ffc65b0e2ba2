/-
  Coverability: Bounded with its certificate; what is reached lies below a state; Bound.
-/
import Derived.Test.YtemahcdcacmgdaaGreatDoorZ3C8
set_option linter.all false
namespace Go.Proofs.YtemahcdcacmgdaaGreatDoor
open Go.K Go.M
theorem jjy{B1 B2 R:Type}{x:B1}{f:B1→R}{g:B2→R}:jak (.inl x) f g=f x:=rfl
theorem jtw{a b t a' b' t' :Nat}(h:mvA a b t=mvA a' b' t'):a=a' ∧b=b' ∧t=t' :=by
 simp only[mvA,Prod.mk.injEq]at h;omega
section
variable {n : b8} (h : Small n) (hv : dp n = true) {m : List Int} (hm : ch n.1 m = true)
include h hv hm
theorem jus{ns:List ae}{st:List (List Int)}(C:CI n m ns.length 0 ns st):∃mv,ov (ns,st,())=some (st,mv,true,()):=by
 have hN:=s9 hv;have hsl:=C.sl;have hnl:=C.nl;have hn0:=C.n0;have e0:qgq (ns,st,()) st (st.length:Int) [] [] false true [] (0,[])=some (.inl st):=by
  have e:st=st.take st.length:=by rw[List.take_length]
  conv=>rhs;rw[e]
  refine ct (fun k:Nat=>((k:Int),st.take k)) st.length (bw (by omega)) _ (fun k hk=> ?_) ?_ _ rfl
  ·have hx:=(C.sx _ (ba [] hk)).1;have hc:=lz (st.getD k []) (by omega);have hl:(st.take k).length=k:=by rw[List.length_take];omega
   rw[ff st k [] hk];simp(disch:=omega)only[oh,hc,hl,rs];rw[al]
  ·simp(disch:=omega)only[oh,rs]
 have hd:(ns.drop 1).length=ns.length-1:=List.length_drop;let f:Nat→ar:=fun k=>((ns.getD (abN ns (k+1)).toNat ae.z).2.2.2.2.1,(ns.getD (k+1) ae.z).2.2.2.2.1,(ns.getD (k+1) ae.z).2.2.2.1,())
 have e1:qgr (ns,st,()) (ns.drop 1) ((ns.drop 1).length:Int) [] [] false st true (0,[])=some (.inl (bg (ns.drop 1).length f)):=by
  refine ct (fun k:Nat=>((k:Int),bg k f)) (ns.drop 1).length (bw (by omega)) _ (fun k hk=> ?_) ?_ _ rfl
  ·have hg:(ns.drop 1).getD k ae.z=ns.getD (k+1) ae.z:=by
    rw[List.getD_eq_getElem?_getD,List.getElem?_drop,List.getD_eq_getElem?_getD,Nat.add_comm]
   obtain⟨a,t,g1,_,g2,_⟩:=C.node (k+1) (by omega) (by omega);have g2' :(ns.getD (k+1) ae.z).2.2.1=(a:Int):=g2;have hl:=om k f;have hf:f k=((ns.getD a ae.z).2.2.2.2.1,(ns.getD (k+1) ae.z).2.2.2.2.1,(ns.getD (k+1) ae.z).2.2.2.1,()):=by
    show((ns.getD (abN ns (k+1)).toNat ae.z).2.2.2.2.1,_,_,())=_;rw[g2,Int.toNat_natCast]
   rw[qz5,hf];simp(disch:=omega)only[oi,hg,g2',hl,rs];rw[al]
  ·simp(disch:=omega)only[oi,rs]
 refine⟨bg (ns.drop 1).length f,?_⟩;unfold ov;dsimp only;rw[jew (by omega) (by omega),e0,bi,zk,jew (by omega) (by omega),jmw (by omega) (by omega) (by omega),e1];rfl
theorem jk9{ns:List ae}{st:List (List Int)}(C:CI n m ns.length 0 ns st)(ho:∀j,j<ns.length→omN ns j=false):(∀x∈st,ch n.1 x=true)∧∀mv:List ar,jz n m (5,0,[],[],st,mv,[],[],())=some true:=by
 have hx:∀x∈st,ch n.1 x=true:=fun x hx=>by
  obtain⟨j,hj,_,rfl⟩:=C.new x hx;exact q83 C h hv hm hj fun i hi=>ho i (by omega)
 refine⟨hx,fun mv=> ?_⟩;have hc:=jpe h hv (m:=m) (l:=st) (by have:=C.sl;omega) (by rw[←C.root.1];exact C.mks 0 C.n0) hx fun x hxm t ht hcan=>by
  obtain⟨j,hj,hnw,rfl⟩:=C.new x hxm;obtain⟨k,k0,k1,k2,k3⟩:=C.cls j t hj hnw (.inl hj) ht hcan;obtain⟨a,t',g1,gt,g2,g3,g4,g5,g6,g7,g8,_⟩:=C.node k k0 k1;obtain rfl:a=j:=by omega
  obtain rfl:t' =t:=by omega
  rw[←qcj h hv (hx _ hxm) ht hcan,←g5,←g8 (ho k k1)];exact C.mks k k1
 have hE:=jh0 h hv hm;simp(disch:=omega)only[jz,hE,hc,rs]
theorem jkr:∃b c e,qdf n m 300=some (b,c,e)∧((e=13∧∀S,¬FullS n m S)∨(e=0∧jz n m c=some true∧∃ns st,wu n m 300=some (.inl (0,ns,st))∧CI n m ns.length 0 ns st∧(b=true→∀j,j<ns.length→omN ns j=false)∧(b=false→∀S,¬FullS n m S))):=by
 have hN:=s9 hv;have hB:=jhj h hv hm (p:=0) (Int.le_refl _) (by omega);unfold qdf;obtain⟨r,hr,⟨ns,st,rfl,C⟩|⟨rfl,hS⟩⟩:=jwa h hv hm
 ·have hnl:=C.nl;have key:∃o,qom ns (ns.length:Int) 0 0 [] [] [] [] [] [] ns st 0=some o∧((o= .inl ()∧∀j,j<ns.length→omN ns j=false)∨(∃c,o= .inr (false,c,0)∧jz n m c=some true∧∃j,j<ns.length∧omN ns j=true)):=by
   refine qg3 (fun s:Int=>∃k:Nat,s=(k:Int)∧k≤ns.length∧∀j,j<k→omN ns j=false) (fun s=>((ns.length:Int)-s).toNat) (fun o:Unit⊕(Bool×qez×Int)=>(o= .inl ()∧∀j,j<ns.length→omN ns j=false)∨(∃c,o= .inr (false,c,0)∧jz n m c=some true∧∃j,j<ns.length∧omN ns j=true)) _ ⟨0,rfl,Nat.zero_le _,fun j hj=>absurd hj (Nat.not_lt_zero j)⟩ (by show((ns.length:Int)-0).toNat<many;exact bw (by omega)) ?_;rintro _ ⟨k,rfl,hk,hlow⟩;by_cases hlt:k<ns.length
   ·cases ho:omN ns k with
    |false=>
     have ho' :(ns.getD k ae.z).2.2.2.2.2.2.2.1=false:=ho;refine⟨.next ((k+1:Nat):Int),by simp(disch:=omega)only[ou,ho',rs];rw[al],⟨k+1,rfl,hlt,fun j hj=> ?_⟩,by omega⟩;by_cases e:j=k
     ·subst e;exact ho
     ·exact hlow j (by omega)
    |true=>
     have ho' :(ns.getD k ae.z).2.2.2.2.2.2.2.1=true:=ho;obtain⟨g,q,w1,w2,hg,e1,c1,c2,hq,hmin,hne,pl,zl,hck⟩:=jt4 h hv hm C hlt ho hlow;have e1' :(ns.getD k ae.z).2.2.2.2.2.1=(g:Int):=e1;have h0:∀{x1 x2 x3 x4 x5 x6 x7 x8 x9 x10 x11 x12 x13 x14 x15 x16 x17 x18},qol x1 (ns.getD g ae.z).2.1 x2 x3 x4 x5 x6 x7 x8 x9 x10 x11 (ns.getD k ae.z).1 x12 x13 x14 x15 x16 x17 x18 0=some (.inl (q:Int)):=by
      intro x1 x2 x3 x4 x5 x6 x7 x8 x9 x10 x11 x12 x13 x14 x15 x16 x17 x18;refine ct (fun j:Nat=>(j:Int)) q (bw (by omega)) _ (fun j hj=> ?_) ?_ _ rfl
      ·have hj' :j<(ns.getD k ae.z).1.length:=by rw[show(ns.getD k ae.z).1.length=n.1.toNat from pl];omega
       have hz' :j<(ns.getD g ae.z).2.1.length:=by rw[show(ns.getD g ae.z).2.1.length=n.1.toNat from zl];omega
       have:=hmin j hj;have hm' :(ns.getD k ae.z).1.getD j 0=(ns.getD g ae.z).2.1.getD j 0:=this;simp(disch:=omega)only[ua,hm',rs];rw[al]
      ·have hj' :q<(ns.getD k ae.z).1.length:=by rw[show(ns.getD k ae.z).1.length=n.1.toNat from pl];exact hq
       have hz' :q<(ns.getD g ae.z).2.1.length:=by rw[show(ns.getD g ae.z).2.1.length=n.1.toNat from zl];exact hq
       have hn' :(ns.getD k ae.z).1.getD q 0≠(ns.getD g ae.z).2.1.getD q 0:=hne;simp(disch:=omega)only[ua,rs]
     exact⟨.ret (false,(6,(q:Int),iL w1,iL w2,[],[],[],[],()),0),by simp(disch:=omega)only[ou,ho',e1',h0,c1,c2,rs], .inr ⟨_,rfl,hck,k,hlt,ho⟩⟩
   ·obtain rfl:k=ns.length:=by omega
    exact⟨.done (),by simp(disch:=omega)only[ou,rs], .inl ⟨rfl,hlow⟩⟩
  obtain⟨o,hL,hpost⟩:=key;have hB' :ma n [m] 0 300=some (.inl (0,ns,st)):=by rw[hB,hr];rfl
  rw[hB',bi,jjy,qmr rfl,hL,bi];rcases hpost with⟨rfl,ho⟩|⟨c,rfl,hc,j,hj,ho⟩
  ·obtain⟨mv,hsp⟩:=jus h hv hm C;rw[zk,hsp,bi];exact⟨_,_,_,rfl, .inr ⟨rfl,(jk9 h hv hm C ho).2 [],ns,st,hr,C,fun _=>ho,(fun hh=>by cases hh)⟩⟩
  ·refine⟨_,_,_,rfl, .inr ⟨rfl,hc,ns,st,hr,C,(fun hh=>by cases hh),fun _ S hS=> ?_⟩⟩;have:=(C.fl S hS).1 j hj;rw[ho]at this;cases this
 ·have hB' :ma n [m] 0 300=some (.inr 13):=by rw[hB,hr];rfl
  rw[hB',bi];exact⟨_,_,_,rfl, .inl ⟨rfl,hS⟩⟩
theorem jru{M:Nat}{σ:Sig}(hs:SpcOK n M m σ){ns:List ae}{st:List (List Int)}(C:CI n m ns.length 0 ns st):∀j,j<σ.2.1.length→∃s∈st,∀q,q<n.1.toNat→s.getD q 0= -1∨(dz σ j).getD q 0≤s.getD q 0:=by
 intro j
 induction j using Nat.strongRecOn with
 |_ j ih=>
  intro hj;by_cases h0:j=0
  ·subst h0;exact⟨m,by rw[←C.root.1];exact C.mks 0 C.n0,fun q _=> .inr (by rw[hs.fst];exact Int.le_refl _)⟩
  ·obtain⟨a,t,ha,hmv⟩:=hs.rch j (by omega) hj;obtain⟨a',b',t',e,ga,gb,gt,gc,gf⟩:=hs.mv _ hmv;obtain⟨rfl,rfl,rfl⟩:=jtw e;obtain⟨s,hsm,hle⟩:=ih a ha ga;have hx:ch n.1 (dz σ a)=true:=hs.sp.mks _ (ba [] ga);have F:=qrd h hv hx gt;have hse:=C.sx s hsm;have hsl:=hse.1;have hcs:ge (li n t) s=true:=qw6.2 fun p hp=>by
    have h1:=qw6.1 gc p hp;have h2:=F.i1 p hp;have h3:=F.mb p.toNat (by omega);have h4:=hle p.toNat (by have:=F.ml;omega);show s.getD p.toNat 0≠0;omega
   obtain⟨i,hi,hnw,rfl⟩:=C.new s hsm;obtain⟨k,k0,k1,k2,k3⟩:=C.cls i t hi hnw (.inl hi) gt hcs;obtain⟨a',t',g1,gt',g2,g3,g4,g5,g6,g7,g8,_⟩:=C.node k k0 k1;obtain rfl:a' =i:=by omega
   obtain rfl:t' =t:=by omega
   refine⟨ng ns k,C.mks k k1,fun q hq=> ?_⟩;rcases g7 q hq with h5|h5
   ·exact .inl h5
   ·rw[h5,g5,qx4 (jot h hv gt) hse g4,←gf,F.at_];rcases hle q hq with h6|h6
    ·rw[if_pos h6];exact .inl rfl
    ·by_cases h7:(ng ns a').getD q 0= -1
     ·rw[if_pos h7];exact .inl rfl
     ·rw[if_neg h7];exact .inr (Int.add_le_add_right (Int.add_le_add_right h6 _) _)
theorem jpc{ns:List ae}{st:List (List Int)}(hg:wu n m 300=some (.inl (0,ns,st)))(C:CI n m ns.length 0 ns st){p:Nat}(hp:p<n.1.toNat):
  ∃b,xy n m (p:Int) 300=some (b,0)∧((b= -1∧∃s∈st,s.getD p 0= -1)∨(0≤b∧(∀s∈st,s.getD p 0≠-1∧s.getD p 0≤b)∧∃s∈st,s.getD p 0=b)):=by
 have hN:=s9 hv;have hsl:=C.sl;have hB:=jhj h hv hm (p:=(p:Int)) (by omega) (by omega);have hst0:0<st.length:=List.length_pos_of_mem (C.mks 0 C.n0);have key:∃o,qub (p:Int) st (st.length:Int) (0,0)=some o∧((o= .inr (-1,0)∧∃s∈st,s.getD p 0= -1)∨(∃b,o= .inl b∧0≤b∧(∀s∈st,s.getD p 0≠-1∧s.getD p 0≤b)∧∃s∈st,s.getD p 0=b)):=by
  refine qg3 (fun s:Int×Int=>∃k:Nat,s.2=(k:Int)∧k≤st.length∧0≤s.1∧(∀j,j<k→(st.getD j []).getD p 0≠-1∧(st.getD j []).getD p 0≤s.1)∧(k=0∧s.1=0∨∃j,j<k∧(st.getD j []).getD p 0=s.1)) (fun s=>((st.length:Int)-s.2).toNat) (fun o:Int⊕(Int×Int)=>(o= .inr (-1,0)∧∃s∈st,s.getD p 0= -1)∨(∃b,o= .inl b∧0≤b∧(∀s∈st,s.getD p 0≠-1∧s.getD p 0≤b)∧∃s∈st,s.getD p 0=b)) _ ⟨0,rfl,Nat.zero_le _,Int.le_refl _,fun j hj=>absurd hj (Nat.not_lt_zero j), .inl ⟨rfl,rfl⟩⟩ (by show((st.length:Int)-0).toNat<many;exact bw (by omega)) ?_;rintro⟨b,_⟩ ⟨k,rfl,hk,hb0,hall,hex⟩;simp only at hb0 hall hex;by_cases hlt:k<st.length
  ·have hx:=C.sx _ (ba [] hlt);have hxl:=hx.1;have hxp:=hx.2 p (by omega);by_cases ho:(st.getD k []).getD p 0= -1
   ·exact⟨.ret (-1,0),by simp(disch:=omega)only[th,rs], .inl ⟨rfl,_,ba [] hlt,ho⟩⟩
   ·refine⟨.next (max b ((st.getD k []).getD p 0),((k+1:Nat):Int)),by simp(disch:=omega)only[th,rs];rw[al],⟨k+1,rfl,hlt,by show 0≤max b _;omega,fun j hj=> ?_, .inr ?_⟩,by show((st.length:Int)-((k+1:Nat):Int)).toNat<((st.length:Int)-(k:Int)).toNat;omega⟩
    ·show _∧_≤max b _;by_cases e:j=k
     ·subst e;exact⟨ho,by omega⟩
     ·have:=hall j (by omega);exact⟨this.1,by omega⟩
    ·show∃j,j<k+1∧_=max b ((st.getD k []).getD p 0);rcases hex with⟨rfl,rfl⟩|⟨j,hj,e⟩
     ·exact⟨0,by omega,by omega⟩
     ·by_cases hc:b≤(st.getD k []).getD p 0
      ·exact⟨k,by omega,by omega⟩
      ·exact⟨j,by omega,by omega⟩
  ·obtain rfl:k=st.length:=by omega
   refine⟨.done b,by simp(disch:=omega)only[th,rs], .inr ⟨b,rfl,hb0,fun s hs=> ?_,?_⟩⟩
   ·obtain⟨j,hj,rfl⟩:=rf [] hs;exact hall j hj
   ·rcases hex with⟨e,_⟩|⟨j,hj,e⟩
    ·omega
    ·exact⟨_,ba [] hj,e⟩
 obtain⟨o,hL,hpost⟩:=key;unfold xy;have hB' :ma n [m] (p:Int) 300=some (.inl (0,ns,st)):=by rw[hB,hg];rfl
 rw[hB',bi,jjy,qmr rfl,hL,bi];rcases hpost with⟨rfl,h1⟩|⟨b,rfl,h1⟩
 ·exact⟨-1,rfl, .inl ⟨rfl,h1⟩⟩
 ·exact⟨b,rfl, .inr h1⟩
end
end Go.Proofs.YtemahcdcacmgdaaGreatDoor
