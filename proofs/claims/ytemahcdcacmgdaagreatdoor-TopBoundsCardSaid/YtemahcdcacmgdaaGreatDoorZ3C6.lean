/-
  Coverability: the rows, and the tree that is made.
-/
import Derived.Test.YtemahcdcacmgdaaGreatDoorZ3C5
set_option linter.all false
namespace Go.Proofs.YtemahcdcacmgdaaGreatDoor
open Go.K Go.M
section
variable {n : b8} (h : Small n) (hv : dp n = true) {m : List Int} (hm : ch n.1 m = true)
include h hv hm
theorem jsx{i d:Nat}{ns:List ae}{st:List (List Int)}(C:CI n m i d ns st)(hi:i<ns.length)(hd:d<n.2.1.length)(hc:ge (li n d) (ng ns i)=true){S:List (List Int)}(hS:FullS n m S):k6 (li n d) (ng ns i)∈S∧∀b,b≤i→Anc ns b i→qtv (ng ns b) (k6 (li n d) (ng ns i))=true→ng ns b=k6 (li n d) (ng ns i):=by
 obtain⟨ho,hs⟩:=C.fl S hS;have hz:=hs _ (C.mks i hi);have e:=qcj h hv (hS.ok _ hz) hd hc;have hp:=hS.cl _ hz d hd hc;rw[e];refine⟨hp,fun b hb ha hbel=> ?_⟩;obtain⟨w,hw⟩:=j32 C ha hi;have hW:=jmi C h hv hm hw fun j hj=>ho j (by omega)
 apply Classical.byContradiction;intro hne;exact jwv h hv hS (.snoc hW hd hc (hS.ok _ hp)) (hs _ (C.mks b (by omega))) hbel hne
theorem j3f{i:Nat}{ns:List ae}{st:List (List Int)}(C:CI n m i 0 ns st)(hi:i<ns.length)(hnw:nwN ns i=true):
  ∃r,qxp (i:Int) n.2.1 (n.2.1.length:Int) n.1 n.2.1 n.2.2.1 n.2.2.2.1 300 (0,atG st,ns,st)=some r∧((∃ns' st',r= .inl (atG st',ns',st')∧CI n m (i+1) 0 ns' st' ∧i<ns'.length)∨(r= .inr (.inr 13)∧∀S,¬FullS n m S)):=by
 have hN:=s9 hv;have hT:=hN.2.2.2.2;refine qg3 (fun s:Int×(List (ByteArray×Int))×(List ae)×(List (List Int))=>∃(t:Nat) (ns:List ae) (st:List (List Int)),s=((t:Int),atG st,ns,st)∧t≤n.2.1.length∧CI n m i t ns st∧i<ns.length∧nwN ns i=true) (fun s=>((n.2.1.length:Int)-s.1).toNat)
  (fun r:((List (ByteArray×Int))×(List ae)×(List (List Int)))⊕((Int×(List ae)×(List (List Int)))⊕Int)=>(∃ns' st',r= .inl (atG st',ns',st')∧CI n m (i+1) 0 ns' st' ∧i<ns'.length)∨(r= .inr (.inr 13)∧∀S,¬FullS n m S))
  (step:=fun a=>il (i:Int) n.2.1 (n.2.1.length:Int) n.1 n.2.1 n.2.2.1 n.2.2.2.1 300 a.1 a.2.1 a.2.2.1 a.2.2.2 (fun a' =>some (.next a')) (fun e=>some (.done e)) (fun r=>some (.ret r))) _ ⟨0,ns,st,rfl,Nat.zero_le _,C,hi,hnw⟩ (by show((n.2.1.length:Int)-0).toNat<many;exact bw (by omega)) ?_
 clear C hi hnw ns st;rintro _ ⟨t,ns,st,rfl,ht,C,hi,hnw⟩;have hnl:=C.nl;by_cases hlt:t<n.2.1.length
 ·have F:=jot h hv hlt;have hz:=C.mx i hi;have hen:=jhr F hz.1;have hx:(n.2.1.getD t ah.z)=li n t:=rfl;have hnx:∀{ns' :List ae} {st' :List (List Int)},CI n m i (t+1) ns' st' →i<ns'.length→nwN ns' i=true→(∃(t' :Nat) (ns'' :List ae) (st'' :List (List Int)),((((t+1:Nat):Int),atG st',ns',st'):Int×(List (ByteArray×Int))×(List ae)×(List (List Int)))=((t' :Int),atG st'',ns'',st'')∧t' ≤n.2.1.length∧CI n m i t' ns'' st'' ∧i<ns''.length∧nwN ns'' i=true)∧((n.2.1.length:Int)-((t+1:Nat):Int)).toNat<((n.2.1.length:Int)-(t:Int)).toNat:=fun h1 h2 h3=>⟨⟨t+1,_,_,rfl,by omega,h1,h2,h3⟩,by omega⟩
  cases hc:ge (li n t) (ng ns i)with
  |false=>
   rw[hc]at hen;refine⟨.next (((t+1:Nat):Int),atG st,ns,st),by simp(disch:=omega)only[il,hx,hen,rs];rw[al],hnx ⟨C.nl,C.n0,C.root,C.node,C.sx,C.sn,C.sl,C.mks,C.new,fun j t' hj hn hor ht' hcan=> ?_,C.inv,C.cw,by have:=C.cb;omega,C.fl⟩ hi hnw⟩;by_cases hnew:j=i∧t' =t
   ·obtain⟨rfl,rfl⟩:=hnew;rw[hc]at hcan;cases hcan
   ·exact C.cls j t' hj hn (by omega) ht' hcan
  |true=>
   rw[hc]at hen;have hfire:=jr6 F hz ⟨hN.1,hN.2.1⟩ hc;cases hb:jer (k6 (li n t) (ng ns i))with
   |true=>
    rw[hb]at hfire;refine⟨.ret (.inr 13),by simp(disch:=omega)only[il,hx,hen,hfire,rs], .inr ⟨rfl,fun S hS=> ?_⟩⟩;have hp:=(jsx h hv hm C hi hlt hc hS).1;obtain⟨_,q2⟩:=d7.1 (hS.ok _ hp);unfold jer at hb;obtain⟨k,hk,hk2⟩:=List.any_eq_true.1 hb;obtain⟨j,hj,rfl⟩:=rf 0 hk;have:=q2 j hj;simp only[decide_eq_true_eq]at hk2;omega
   |false=>
    rw[hb]at hfire;have hplen:=qte (li n t) (ng ns i);have hzl:=hz.1;have hp:ExB n.1 (k6 (li n t) (ng ns i)):=⟨by omega,fun q hq=>by
     have h1:=jh4 F hz hc q (by omega);have h2:=List.any_eq_false.1 hb _ (ba 0 hq);simp only[decide_eq_true_eq]at h2;omega⟩
    have hcl:=lz (k6 (li n t) (ng ns i)) (by omega);obtain⟨g,o,mk,hup,hmx,hdom,ho0,ho1,hom⟩:=j6l C hi hp hN.2.1 n.2.1 (n.2.1.length:Int) (t:Int) n.1 n.2.1 n.2.2.1 n.2.2.2.1 300 (i:Int) (t:Int) 0 false (atG st);have hinv:∀Y,q0m n Y→OmS n m Y mk:=fun Y hY=>hom Y hY (jwx h hv hz hlt hc hY (C.inv Y hY _ (C.mks i hi)))
    have hfl:∀S,FullS n m S→o=false∧mk∈S:=fun S hS=>by
     obtain⟨f1,f2⟩:=jsx h hv hm C hi hlt hc hS;have ho:o=false:=by
      cases o with
      |false=>rfl
      |true=>
       obtain⟨b,_,b2,b3,b4,b5⟩:=ho1 rfl;exact absurd (f2 b b2 b3 b4) b5
     exact⟨ho,by rw[ho0 ho];exact f1⟩
    have hil:∀x:ae,i<(ns++[x]).length∧nwN (ns++[x]) i=true:=fun x=>⟨by simp;omega,by unfold nwN;rw[zg _ _ _ _ hi];exact hnw⟩
    obtain⟨r,hadd,⟨a1,a2,k,rfl⟩|⟨a1,a2,a3,k,rfl⟩|⟨a1,a2⟩⟩:=jvg (p:=k6 (li n t) (ng ns i)) (a:=(i:Int)) (t:=(t:Int)) (g:=g) (o:=o) (show n.1≤1000 by omega) hmx C.sx C.sn C.sl C.nl
    ·exact⟨.next (((t+1:Nat):Int),atG st,_,st),by simp(disch:=omega)only[il,hx,hen,hfire,hcl,hup,hadd,rs];rw[al],hnx (C.push hi hnw hlt hc hmx hb hdom ho0 ho1 hinv hfl a2 (.inl ⟨a1,rfl,rfl⟩)) (hil _).1 (hil _).2⟩
    ·exact⟨.next (((t+1:Nat):Int),atG (st++[mk]),_,st++[mk]),by simp(disch:=omega)only[il,hx,hen,hfire,hcl,hup,hadd,rs];rw[al],hnx (C.push hi hnw hlt hc hmx hb hdom ho0 ho1 hinv hfl a3 (.inr ⟨a1,rfl,rfl,a2⟩)) (hil _).1 (hil _).2⟩
    ·refine⟨.ret (.inr 13),by simp(disch:=omega)only[il,hx,hen,hfire,hcl,hup,hadd,a1,rs], .inr ⟨rfl,fun S hS=> ?_⟩⟩;have:=C.room hT (by omega) (by omega) hS;omega
 ·obtain rfl:t=n.2.1.length:=by omega
  refine⟨.done (atG st,ns,st),by simp(disch:=omega)only[il,rs], .inl ⟨ns,st,rfl,⟨C.nl,C.n0,C.root,C.node,C.sx,C.sn,C.sl,C.mks,C.new,fun j t' hj hn hor ht' hcan=>C.cls j t' hj hn (by omega) ht' hcan,C.inv,C.cw,?_,C.fl⟩,hi⟩⟩;have:=C.cb;rw[qiq,hnw,if_pos rfl,Nat.mul_add];omega
theorem jwa:∃r,wu n m 300=some r∧((∃ns st,r= .inl (0,ns,st)∧CI n m ns.length 0 ns st)∨(r= .inr 13∧∀S,¬FullS n m S)):=by
 have hN:=s9 hv;have hme:=ExB.of hm;have hml:=hme.1;have hcl:=lz m (by omega);have hk:=qyv (show n.1≤1000 by omega) hme;have h1:qf0 (m,m,-1,-1,0,-1,false,false,()) 300 []=some (0,atG [m],[(m,m,-1,-1,0,-1,true,false,())],[m]):=by
  unfold qf0;simp only[hk,bi];rfl
 have C0:CI n m 0 0 [(m,m,-1,-1,0,-1,true,false,())] [m]:=by
  refine⟨by simp,by simp,⟨rfl,rfl,rfl,rfl,rfl⟩,fun j h0 hj=> ?_,fun s hs=>by rw[List.mem_singleton.1 hs];exact hme,by simp,by simp,fun j hj=> ?_,fun s hs=>⟨0,by simp,rfl,(List.mem_singleton.1 hs).symm⟩,fun j t _ _ hor=>by omega,fun Y hY s hs=> ?_,rfl,by simp,fun S hS=>⟨fun j hj=> ?_,fun s hs=>by rw[List.mem_singleton.1 hs];exact hS.fst⟩⟩
  ·simp only[List.length_singleton]at hj;omega
  ·simp only[List.length_singleton]at hj;obtain rfl:j=0:=by omega
   exact List.mem_singleton.2 rfl
  ·rw[List.mem_singleton.1 hs];refine⟨fun q hq hh=> ?_,rfl⟩;have:=(d7.1 hm).2 q (by omega);omega
  ·simp only[List.length_singleton]at hj;obtain rfl:j=0:=by omega
   rfl
 have key:=qg3 (fun s:Int×(List (ByteArray×Int))×(List ae)×(List (List Int))=>∃(i:Nat) (ns:List ae) (st:List (List Int)),s=((i:Int),atG st,ns,st)∧i≤ns.length∧CI n m i 0 ns st) (fun s=>(20001-s.1).toNat)
  (fun r:((List ae)×(List (List Int)))⊕((Int×(List ae)×(List (List Int)))⊕Int)=>(∃ns st,r= .inl (ns,st)∧CI n m ns.length 0 ns st)∨(r= .inr (.inr 13)∧∀S,¬FullS n m S))
  (step:=fun a=>nh n.1 n.2.1 n.2.2.1 n.2.2.2.1 300 a.1 a.2.1 a.2.2.1 a.2.2.2 (fun a' =>some (.next a')) (fun e=>some (.done e)) (fun r=>some (.ret r)))
  (0,atG [m],[(m,m,-1,-1,0,-1,true,false,())],[m]) ⟨0,_,_,rfl,Nat.zero_le _,C0⟩ (by show(20001-(0:Int)).toNat<many;exact bw (by omega)) ?_
 ·obtain⟨o,ho,hpost⟩:=key;have ho:qxq n.1 n.2.1 n.2.2.1 n.2.2.2.1 300 (0,atG [m],[(m,m,-1,-1,0,-1,true,false,())],[m])=some o:=ho;unfold wu;rw[hcl,bi,h1,bi,qmr rfl,ho,bi];rcases hpost with⟨ns,st,rfl,C⟩|⟨rfl,hS⟩
  ·exact⟨_,rfl, .inl ⟨ns,st,rfl,C⟩⟩
  ·exact⟨_,rfl, .inr ⟨rfl,hS⟩⟩
 clear C0 h1;rintro _ ⟨i,ns,st,rfl,hi,C⟩;have hnl:=C.nl;by_cases hlt:i<ns.length
 ·cases hnw:nwN ns i with
  |false=>
   have hnw' :(ns.getD i ae.z).2.2.2.2.2.2.1=false:=hnw;refine⟨.next (((i+1:Nat):Int),atG st,ns,st),by simp(disch:=omega)only[nh,hnw',rs];rw[al],⟨i+1,ns,st,rfl,hlt,C.nl,C.n0,C.root,C.node,C.sx,C.sn,C.sl,C.mks,C.new,fun j t hj hn hor=> ?_,C.inv,C.cw,?_,C.fl⟩,by show(20001-((i+1:Nat):Int)).toNat<(20001-(i:Int)).toNat;omega⟩
   ·by_cases hji:j=i
    ·subst hji;rw[hnw]at hn;cases hn
    ·exact C.cls j t hj hn (by omega)
   ·rw[qiq,hnw];have:=C.cb;simp;omega
  |true=>
   have hnw' :(ns.getD i ae.z).2.2.2.2.2.2.1=true:=hnw;obtain⟨r,hr,⟨ns',st',rfl,C',hi'⟩|⟨rfl,hS⟩⟩:=j3f h hv hm C hlt hnw
   ·exact⟨.next (((i+1:Nat):Int),atG st',ns',st'),by simp(disch:=omega)only[nh,hnw',hr,rs];rw[al],⟨i+1,ns',st',rfl,hi',C'⟩,by show(20001-((i+1:Nat):Int)).toNat<(20001-(i:Int)).toNat;omega⟩
   ·exact⟨.ret (.inr 13),by simp(disch:=omega)only[nh,hnw',hr,rs], .inr ⟨rfl,hS⟩⟩
 ·obtain rfl:i=ns.length:=by omega
  exact⟨.done (ns,st),by simp(disch:=omega)only[nh,rs], .inl ⟨ns,st,rfl,C⟩⟩
end
end Go.Proofs.YtemahcdcacmgdaaGreatDoor
