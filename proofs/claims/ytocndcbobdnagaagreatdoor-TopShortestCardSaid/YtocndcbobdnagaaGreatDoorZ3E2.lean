/-
  Steps and Fastest: a shortest way to the final state.
-/
import Derived.Test.YtocndcbobdnagaaGreatDoorZ3E1
set_option linter.all false
namespace Go.Proofs.YtocndcbobdnagaaGreatDoor
open Go.K Go.M
inductive Prep (n : bk) (m : List Int) (J : Sig) : Prop
 | lim (h1 : db n m 60 = some ([], 0, 0, 13))
 | none (hf : J.1 = true) (hn : vp n.1 n.2.2.2.1 ∉ J.2.1) (h1 : db n m 60 = some ([], 0, 0, 10))
 | ok (g : Nat) (c : Mk) (hG : GG n m 60 J J.2.1.length g (egs J) c) (h1 : db n m 60 = some (gEs c (egs J), (g : Int), (J.2.1.length : Int), 0))
theorem ze8{n:bk}(h:Small n)(htr:n.2.1.length<=20)(hv:dp n=true){m:List Int}(hmk:c6 n.1 m=true):Prep n m (spc n 60 m):=by
 have hN:=js hv;have hml:=(ez.1 hmk).1;have hE:=qjw h m (by omega);have hX:=jcq h m (by omega) 60 (by omega);rw[hv,hmk]at hE hX;have hX:ql n m 60=some (((spc n 60 m).2.1,(spc n 60 m).2.2,(spc n 60 m).1,()),0):=hX.trans (by rw[if_neg (by omega)];rfl);have hok:=jl5 (n:=n) (M:=60) hmk (by omega);generalize spc n 60 m=J at hX hok;obtain⟨e1,e2,e3⟩:=q1d hok;have hsl:=hok.sp.len;have hb:60*n.2.1.length<=60*20:=HI _ htr;cases hfu:J.1 with
 |false=>
  rw[hfu]at hX;refine .lim ?_;unfold db;simp(disch:=omega)only[hE,hX,WP,KT,rs]
 |true=>
  rw[hfu]at hX;have hF:=jcr h hv;have hFd:=jr0 (J.2.1,J.2.2,true,()) (vp n.1 n.2.2.2.1) (by show J.2.1.length<=_;omega) (fun x hx=>by have:=(ez.1 (hok.sp.mks x hx)).1;omega);have hpos:=hok.sp.pos;rcases jia J.2.1 (vp n.1 n.2.2.2.1)with⟨hg,hni⟩|⟨g,hg,hgl,hgs⟩
  ·simp only[hg]at hFd;refine .none hfu hni ?_;unfold db;simp(disch:=omega)only[hE,hX,hF,hFd,Wv,KT,rs]
  ·simp only[hg]at hFd;obtain⟨c,hx1,hs,ha⟩:=j3f (g:=g) (by omega) (egs J) e2 (by omega) [] 0 0 J.2.1 true (g:Int) (J.2.1.length:Int) [] J.2.1.length 0 (mk0 g) (by omega) jy9.1 jy9.2;have hL1:qmz [] 0 0 J.2.1 J.2.2 true (g:Int) (J.2.1.length:Int) [] (true,qud J.2.1.length (mk0 g))=some (.inl (qud J.2.1.length c)):=by
    rw[e1];exact t8 hx1 (bm (by omega))
   have hL2:=j3g (by omega) (egs J) e2 (by omega) c [] 0 0 (g:Int) (J.2.1.length:Int);rw[<-e1]at hL2;have er:List.replicate J.2.1.length (false:Bool)=qud J.2.1.length fun _=>false:=qsf _ _
   have e5:(List.replicate J.2.1.length (false:Bool)).set g true=qud J.2.1.length (mk0 g):=by
    rw[er,jog];refine qcu fun j _=> ?_
    unfold jvx mk0;by_cases hj:j=g
    ·rw[if_pos hj,Ws hj]
    ·rw[if_neg hj,WD hj]
   have hlr:(List.replicate J.2.1.length (false:Bool)).length=J.2.1.length:=WT;refine .ok g c ⟨hok,hfu,rfl,rfl,by omega,hgl,hgs,fun i=>⟨fun hi=>jww.1 (hs i hi),fun hi=>ha i (jww.2 hi)⟩,htr⟩ ?_;unfold db;simp(disch:=omega)only[hE,hX,hF,hFd,hlr,e5,hL1,hL2,Wv,KT,rs]
structure DistOK (N g : Nat) (nE : List Eg) (c : Mk) (TT : Nat) (ts : List ag) (sl : Bool) (d : Dst) : Prop where
 prg : ∀ W, Wt W (wtT ts sl) TT -> jp1 (gEs c nE) (g : Int) (N : Int) W sl = some (uu N d)
 snd : Snd (fun e => e ∈ nE) (wtT ts sl) g d
 opt : Opt (fun e => e ∈ nE) (wtT ts sl) g sl d
 bd : ∀ i v, d i = some v -> 0 <= v.1 /\ v.1 <= 104857600 /\ 0 <= v.2 /\ v.2 <= 100 /\ v.2 <= (N : Int)
theorem DistOK.at0{N g:Nat}{nE:List Eg}{c:Mk}{TT:Nat}{ts:List ag}{sl:Bool}{d:Dst}(h:DistOK N g nE c TT ts sl d)(hr:RL nE 0 g):∃v,d 0=some v:=by
 obtain⟨l,hl⟩:=hr;obtain⟨v,h1,_⟩:=h.opt 0 _ (qyi hl);exact⟨v,h1⟩
section
variable {n : bk} {m : List Int} {M : Nat} {J : Sig} {N g : Nat} {nE : List Eg} {c : Mk} {ts : List ag} {sl : Bool} {d : Dst}
theorem jq3(h:GG n m M J N g nE c){ts:List ag}(hts:oy ts n.2.1.length=true)(ho:¬Op ts (gdL c nE)):qzo (fun e=>e∈gdL c nE) (wtT ts true) true g:=fun i l hl ⟨l',hl'⟩=>by
 have hz:wtL (wtT ts true) l=0:=j6y fun e he=>by
  obtain⟨h1,h2,h3⟩:=qyh hl e he;have ht:=h.gl'.good e h1;have h5:=qll hts true e.2.2 (by rw[sj hts];exact ht.t);have h6:wtT ts true e.2.2=grT ts e.2.2:=rfl;have h7:=(Wc _ _▸(Kf.1 h1).2:c e.1=true/\c e.2.1=true).1;have h4:¬0<grT ts e.2.2:=fun hp=>ho ⟨e,h1,(h.rl h7).2 (h.r0 _ _ (Hl _) (h.lt h7)), .inr ⟨hp,h3.trans h2⟩⟩
  omega
 rw[hz];exact Kc _
theorem jso(h:GG n m M J N g nE c)(hts:oy ts n.2.1.length=true)(hc:qzo (fun e=>e∈gdL c nE) (wtT ts sl) sl g):∃d,DistOK N g nE c n.2.1.length ts sl d:=by
 have htl:=sj hts;have hok:=jkp (gdL c nE);have hme:(fun e=>e∈flE (grp (gdL c nE)))=fun e=>e∈gdL c nE:=by
  funext e;exact propext (jsv hok e)
 have key:∀W,Wt W (wtT ts sl) n.2.1.length->∃d',jp1 (gEs c nE) (g:Int) (N:Int) W sl=some (uu N d')/\Snd (fun e=>e∈nE) (wtT ts sl) g d' /\Opt (fun e=>e∈nE) (wtT ts sl) g sl d' :=fun W hW=>by
  obtain⟨d',q1,q2,q3⟩:=j1k (W:=W) (w:=wtT ts sl) (N:=N) (TT:=n.2.1.length) (g:=g) (sl:=sl) (es:=grp (gdL c nE)) ⟨hW,jyf hok h.gl'.good,by rw[hok.len];exact h.gl'.len,h.len.2,h.gl,by rw[hme];exact hc⟩;rw[hme]at q2 q3;exact⟨d',q1,fun i v hv=>h.wk.1 (q2 i v hv),fun i v hv=>q3 i v (h.wk.2 hv)⟩
 obtain⟨d,_,h2,h3⟩:=key (fun t=>some (wtT ts sl t.toNat)) ⟨fun t _=>rfl,fun t ht=>qll hts sl t (by rw[htl];exact ht)⟩;refine⟨d,fun W hW=> ?_,h2,h3,j12 h hts hc h2 h3⟩;obtain⟨d',q1,q2,q3⟩:=key W hW;rw[qkm (E:=fun e=>e∈nE) (w:=wtT ts sl) (g:=g) (sl:=sl) h2 h3 q2 q3];exact q1
theorem zfh{ts:List ag}{TT:Nat}(hts:oy ts TT=true):Wt (fun t=>fo t ts) (wtT ts false) TT:=by
 refine⟨fun t ht=> ?_,fun t ht=>qll hts false t (by rw[sj hts];exact ht)⟩;have:=sj hts;unfold fo;simp(disch:=omega)only[WN,rs];rfl
theorem zfi{ts:List ag}{TT:Nat}(hts:oy ts TT=true):Wt (fun t=>fp t ts) (wtT ts true) TT:=by
 refine⟨fun t ht=> ?_,fun t ht=>qll hts true t (by rw[sj hts];exact ht)⟩;have:=sj hts;unfold fp;simp(disch:=omega)only[WN,rs];rfl
theorem zaj(h:GG n m M J N g nE c)(hc:c 0=true)(hts:oy ts n.2.1.length=true)(hF:DistOK N g nE c n.2.1.length ts false d){v:Val}(hv:d 0=some v):∃B,ll (gEs c nE) (g:Int) (N:Int) ts=some B/\B.1=v.1:=by
 have hN:=h.pos;have hr:=(h.leads 0).1 hc;have htl:=sj hts;obtain⟨b,h1,h2⟩:=j3a (ts:=ts) (by rw[htl];exact h.gl') (jw9 (gdL c nE)) h.pos (g:Int) (N:Int);have e1:=hF.prg _ (zfh hts);have e2:(uu N d).getD 0 ae.z=wb (d 0):=qjf hN _;have e3:=qpb N d;rw[hv]at e2;unfold ll;cases b with
 |true=>
  refine⟨(v.1,0,true,()),?_,rfl⟩;rw[jsb,e1];simp(disch:=omega)only[h1,e2,wb,rs]
 |false=>
  obtain⟨dS,hS⟩:=jso h hts (jq3 h hts fun h5=>by have:=h2.2 h5;cases this);obtain⟨u,hu⟩:=hS.at0 hr;have e4:=hS.prg _ (zfi hts);have e5:(uu N dS).getD 0 ae.z=wb (dS 0):=qjf hN _;have e6:=qpb N dS;rw[hu]at e5;refine⟨(v.1,u.1,false,()),?_,rfl⟩;rw[jsb,j1i,e1,e4];simp(disch:=omega)only[h1,e2,e5,wb,rs]
theorem DistOK.cd(h:GG n m M J N g nE c)(hd:DistOK N g nE c n.2.1.length ts sl d){i:Nat}{u:Val}(hi:d i=some u):c i=true:=by
 obtain⟨l,h1,_⟩:=q6p (hd.snd i u hi);exact(h.leads i).2 ⟨l,h1⟩
theorem j26(h:GG n m M J N g nE c)(hd:DistOK N g nE c n.2.1.length ts sl d){i:Nat}{v:Val}(hi:d i=some v)(hp:0<v.2):∃q,(m6 (gdL c nE) i).find? (qg1 (wtT ts sl) d v)=some q/\(i,q.1,q.2)∈nE/\∃u,d q.1=some u/\u.1+wtT ts sl q.2=v.1/\u.2+1=v.2:=by
 have hex:∃q∈m6 (gdL c nE) i,qg1 (wtT ts sl) d v q=true:=by
  have hw:=hd.snd i v hi;generalize hv:v=v0 at hw;cases hw with
  |nil=>rw[hv]at hp;exact absurd hp (by simp)
  | @cons _ b t u he hw' =>
   obtain⟨u',h1,h2⟩:=hd.opt b u hw';obtain⟨v',h3,h4⟩:=hd.opt i _ (Wk.cons he (hd.snd b u' h1));rw[hi,hv]at h3;cases h3;have h5:=q4e h4 (q4d (wtT ts sl t) h2);have h8:qlr (wtT ts sl t) u' =qlr (wtT ts sl t) u:=q4e (q4d _ h2) h4;have h9:=W0 (fun x:Val=>x.1) h8;have h10:=W0 (fun x:Val=>x.2) h8;have hb:=hd.cd h h1;refine⟨(b,t),f9.2 (Kf.2 ⟨he,?_⟩),?_⟩
   ·rw[hb,h.step he hb];rfl
   ·unfold qg1;simp only[h1];rw[Ws (show u'.1+wtT ts sl t=_ from h9),Ws (show u'.2+1=_ from h10)];rfl
 cases hf:(m6 (gdL c nE) i).find? (qg1 (wtT ts sl) d v)with
 |none=>
  obtain⟨q,hq,hp⟩:=hex;exact absurd hp (List.find?_eq_none.1 hf q hq)
 |some q=>
  have h1:=List.find?_some hf;refine⟨q,rfl,jqm (f9.1 (List.mem_of_find?_eq_some hf)),?_⟩;unfold qg1 at h1;cases hu:d q.1 with
  |none=>rw[hu]at h1;cases h1
  |some u=>
   rw[hu]at h1;have h2:=Wc _ _▸h1;exact⟨u,rfl,W8 h2.1,W8 h2.2⟩
theorem jxh(h:GG n m M J N g nE c)(hts:oy ts n.2.1.length=true)(hd:DistOK N g nE c n.2.1.length ts sl d){W:Int->Option Int}(hW:Wt W (wtT ts sl) n.2.1.length){i:Nat}(hi:i<N){v:Val}(hv:d i=some v)(g30:List (Int×List ab))(g31 g32:Int)(out:List Int)(A:List (Nat×Nat))(hA:A.length<=100000)(hg:∀q∈A,q.1<N/\q.2<n.2.1.length)(hs:A.Pairwise fun a b=>a.2<b.2):
  jka W (uu N d) (i:Int) (A.map ct) ((A.map ct).length:Int) g30 g31 g32 out (0,-1,0)=some (.inl (jx4 (A.find? (qg1 (wtT ts sl) d v)))):=by
 have hlA:(A.map ct).length=A.length:=by rw[Ww]
 rw[hlA];have eT:A.find? (qg1 (wtT ts sl) d v)=(A.take A.length).find? (qg1 (wtT ts sl) d v):=by rw[WW]
 rw[eT];refine jp (fun k:Nat=>((k:Int),(jx4 ((A.take k).find? (qg1 (wtT ts sl) d v))).1,(jx4 ((A.take k).find? (qg1 (wtT ts sl) d v))).2)) A.length (bm (by omega)) _ (fun k hk=> ?_) ?_ _ (by rfl)
 ·have e1:(A.take (k+1)).find? (qg1 (wtT ts sl) d v)=((A.take k).find? (qg1 (wtT ts sl) d v)).or (bif qg1 (wtT ts sl) d v (A.getD k (0,0))then some (A.getD k (0,0))else none):=by
   rw[cw A k (0,0) hk,List.find?_append,List.find?_cons];cases qg1 (wtT ts sl) d v (A.getD k (0,0))<;>rfl
  rw[e1];have hlt:∀q0,(A.take k).find? (qg1 (wtT ts sl) d v)=some q0->q0.2<(A.getD k (0,0)).2:=fun q0 hq=>by
   have h1:=List.mem_of_find?_eq_some hq;have h2:(A.take k++A.drop k).Pairwise fun a b=>a.2<b.2:=by rw[List.take_append_drop];exact hs
   refine(List.pairwise_append.1 h2).2.2 q0 h1 _ ?_;rw[qyf A k (0,0) hk];exact Wf
  have hgk:(A.map ct).getD k ab.z=ct (A.getD k (0,0)):=la _ _ _ _ _ hk;have hqm:=hg _ (ay (0,0) hk);generalize(A.take k).find? (qg1 (wtT ts sl) d v)=o at hlt;generalize A.getD k (0,0)=q at hgk hqm hlt;have hkl:k<(A.map ct).length:=by rw[hlA];exact hk
  have hlo:=qpb N d;have h1:(uu N d).getD q.1 ae.z=wb (d q.1):=qjf hqm.1 _;have h2:(uu N d).getD i ae.z=wb (d i):=qjf hi _;rw[hv]at h2;have hWq:=hW.eq q.2 hqm.2;have hWb:=hW.b q.2 hqm.2;unfold qg1;generalize wtT ts sl q.2=wq at hWq hWb⊢;cases hu:d q.1 with
  |none=>
   rw[hu]at h1;simp only[W9,Option.or_none];simp(disch:=omega)only[qq0,hgk,q62,jc0,h1,wb,am,rs]
  |some u=>
   rw[hu]at h1;have hb:=hd.bd _ _ hu;simp only[];by_cases ha:u.1+wq=v.1
   ·by_cases hb2:u.2+1=v.2
    ·rw[Ws ha,Ws hb2];cases o with
     |none=>
      simp only[Bool.and_true,WQ,Option.none_or];simp(disch:=omega)only[qq0,hgk,q62,jc0,h1,h2,wb,hWq,Ws ha,Ws hb2,jx4,am,rs];rfl
     |some q0=>
      have hlt0:=hlt q0 rfl;simp only[Bool.and_true,WQ,Option.some_or];rw[show jx4 (some q0)=((q0.1:Int),(q0.2:Int))from rfl];simp only[];simp(disch:=omega)only[qq0,hgk,q62,jc0,h1,h2,wb,hWq,Ws ha,Ws hb2,am,rs]
    ·rw[Ws ha,WD hb2];simp only[Bool.and_false,W9,Option.or_none];simp(disch:=omega)only[qq0,hgk,q62,jc0,h1,h2,wb,hWq,Ws ha,WD hb2,am,rs]
   ·rw[WD ha];simp only[Bool.false_and,W9,Option.or_none];simp(disch:=omega)only[qq0,hgk,q62,jc0,h1,h2,wb,hWq,WD ha,am,rs]
 ·simp(disch:=omega)only[qq0,hlA,rs]
theorem za1(h:GG n m M J N g nE c)(hts:oy ts n.2.1.length=true)(hd:DistOK N g nE c n.2.1.length ts sl d){W:Int->Option Int}(hW:Wt W (wtT ts sl) n.2.1.length)(g31 g32:Int):∀(f i:Nat) (v:Val) (o:List Int),d i=some v->v.2=(f:Int)->i<N->o.length+f<=500->
  ∃l,IsW (fun e=>e∈nE) i l g/\wtL (wtT ts sl) l=v.1/\l.length=f/\
   xh (fun a=>jb4 W (uu N d) (gEs c nE) g31 g32 a.1 a.2 (fun a' =>some (.next a')) (fun e=>some (.done e)) (fun r=>some (.ret r))) (f+1) ((i:Int),o)=some (.inl (o++l.map fun e=>(e.2.2:Int))):=by
 intro f
 induction f with
 |zero=>
  intro i v o hv hvf hi ho;have hlp:=qpb N d;have h1:(uu N d).getD i ae.z=wb (d i):=qjf hi _;obtain⟨l,h3,h4⟩:=q6p (hd.snd i v hv);rw[hv]at h1;have h5:(l.length:Int)=0:=by have:=W0 (fun x:Val=>x.2) h4;simp only[]at this;omega
  cases l with
  |cons e l=>simp only[WA]at h5;omega
  |nil=>
   refine⟨[],h3,(W0 (fun x:Val=>x.1) h4).symm,rfl,?_⟩;rw[ce,KH,Kx];simp(disch:=omega)only[jb4,h1,wb,rs];rfl
 |succ f ih=>
  intro i v o hv hvf hi ho;have hlp:=qpb N d;have h1:(uu N d).getD i ae.z=wb (d i):=qjf hi _;rw[hv]at h1;obtain⟨q,hq,hm,u,hu,hu1,hu2⟩:=j26 h hd hv (by omega);have hge:=h.good _ hm;obtain⟨l,l1,l2,l3,l4⟩:=ih q.1 u (o++[(q.2:Int)]) hu (by omega) hge.b (by rw[Wx,Ks];omega);have hrow:=qys h.gl' i;have h3:=jxh h hts hd hW hi hv (gEs c nE) g31 g32 o (m6 (gdL c nE) i) (by omega) (fun q hq=>⟨(h.gl'.good _ (f9.1 hq)).b,(h.gl'.good _ (f9.1 hq)).t⟩) (j3o h i);rw[hq]at h3;have hM:AM (gEs c nE) (gdL c nE):=jw9 _;generalize gEs c nE=M at h3 l4 hM⊢;have h5:jka W (uu N d) (i:Int) (oj ab.ty (bz (.int .i64) (i:Int) M)) ((oj ab.ty (bz (.int .i64) (i:Int) M)).length:Int) M g31 g32 o (0,-1,0)=some (.inl ((q.1:Int),(q.2:Int))):=(W0 (fun A:List ab=>jka W (uu N d) (i:Int) A (A.length:Int) M g31 g32 o (0,-1,0)) (hM i)).trans h3;refine⟨(i,q.1,q.2)::l,⟨rfl,hm,l1⟩,?_,?_,?_⟩
  ·rw[qhz];show wtT ts sl q.2+_=_;omega
  ·rw[WA];omega
  ·rw[ce,Kd,List.append_cons,<-l4];simp(disch:=omega)only[jb4,h1,h5,wb,WN,rs];rfl
theorem za0(h:GG n m M J N g nE c)(hts:oy ts n.2.1.length=true)(hd:DistOK N g nE c n.2.1.length ts sl d){v:Val}(hv:d 0=some v){W:Int->Option Int}(hW:Wt W (wtT ts sl) n.2.1.length):
  ∃l,IsW (fun e=>e∈nE) 0 l g/\wtL (wtT ts sl) l=v.1/\j7b (gEs c nE) (g:Int) (N:Int) W sl=some (l.map fun e=>(e.2.2:Int)):=by
 have hb:=hd.bd _ _ hv;obtain⟨f,hf⟩:∃f:Nat,v.2=(f:Int):=⟨v.2.toNat,by omega⟩;obtain⟨l,l1,l2,l3,l4⟩:=za1 h hts hd hW (g:Int) (N:Int) f 0 v [] hv hf h.pos (by simp;omega);have e1:=hd.prg W hW;have e3:jxi W (uu N d) (gEs c nE) (g:Int) (N:Int) (0,[])=some (.inl (l.map fun e=>(e.2.2:Int))):=t8 l4 (bm (by omega));refine⟨l,l1,l2,?_⟩;unfold j7b;rw[e1];simp(disch:=omega)only[e3,rs]
end
abbrev qiq(T:Nat):List ag:=List.replicate T (1,1,false,())
theorem jre:((List.range 15).all fun T=>decide (dx [(1,1,false,())] (T:Int)=some (qiq T)))=true:=by kernel_rfl
theorem jv1(T:Nat)(h:T<=14):dx [(1,1,false,())] (T:Int)=some (qiq T):=W8 (Kt.1 jre T (Kk.2 (by omega)))
theorem jq6(T:Nat):oy (qiq T) T=true:=by
 unfold oy;rw[WT,Ws rfl,Hq,WE];refine KW.2 fun x hx=> ?_
 rw[(List.mem_replicate.1 hx).2]
 decide
theorem jtc{T:Nat}{sl:Bool}:∀{l:List Eg},(∀e∈l,e.2.2<T)->wtL (wtT (qiq T) sl) l=(l.length:Int)
 |[],_=>rfl
 |e::l,h=>by
  have h1:(qiq T).getD e.2.2 ag.z=(1,1,false,()):=by
   have:=h e Wf;rw[Wa,KF,if_pos this];rfl
  rw[qhz,jtc fun e' he=>h e' (We _ he),WA];unfold wtT;rw[h1];cases sl
  ·show(1:Int)+_=_;omega
  ·show(1:Int)+_=_;omega
inductive Pred (n : bk) (m : List Int) (J : Sig) : Prop
 | lim (B : ag) (h1 : dv n m 60 = some (B, 13))
 | none (B : ag) (h1 : dv n m 60 = some (B, 10)) (hf : J.1 = true) (hn : vp n.1 n.2.2.2.1 ∉ J.2.1)
 | ok (B : ag) (g : Nat) (l : List Eg) (h1 : dv n m 60 = some (B, 0)) (h2 : o5 n m (qiq n.2.1.length) 60 = some (0, l.map fun e => (e.2.2 : Int))) (hf : J.1 = true) (hg : g < J.2.1.length) (hs : d9 J g = vp n.1 n.2.2.2.1) (hl : IsW (fun e => e ∈ egs J) 0 l g) (hB : B.1 = (l.length : Int)) (hm : ∀ l', IsW (fun e => e ∈ egs J) 0 l' g -> l.length <= l'.length)
theorem j3d{n:bk}(h:Small n)(htr:n.2.1.length<=14)(hv:dp n=true){m:List Int}(hmk:c6 n.1 m=true):Pred n m (spc n 60 m):=by
 have hN:=js hv;have hml:=(ez.1 hmk).1;have hV:=qjx h;rw[hv]at hV;have hr:=jv1 n.2.1.length htr;have hlo:(qiq n.2.1.length).length=n.2.1.length:=WT;have ht:=jq6 n.2.1.length;have hg:=jyd h (by omega) (m:=m) (by omega) (ts:=qiq n.2.1.length) (by omega) 60;rw[ht]at hg;have hg:vj n m (qiq n.2.1.length) 60=db n m 60:=hg;cases ze8 h (by omega) hv hmk with
 |lim h1=>
  rw[h1]at hg;refine .lim (0,0,false,()) ?_;unfold dv qdn pd;simp(disch:=omega)only[hV,hr,hg,Wv,show decide ((13:Int)=0)=false from rfl,WP,rs]
 |none hf hn h1=>
  rw[h1]at hg;refine .none (0,0,false,()) ?_ hf hn;unfold dv qdn pd;simp(disch:=omega)only[hV,hr,hg,Wv,show decide ((10:Int)=0)=false from rfl,WP,rs]
 |ok g c hG h1=>
  rw[h1]at hg;have hok:=hG.ok;have hfl:=hG.full;have hgs:=hG.fin;generalize spc n 60 m=J at hG hg hok hfl hgs;have hc0:c 0=true:=(hG.leads 0).2 (hG.r0 _ _ (Hl _) hG.gl);obtain⟨x,hx⟩:=jzx hG.leads (J.2.1.length:Int);rw[hc0]at hx;have hcy:qzo (fun e=>e∈gdL c (egs J)) (wtT (qiq n.2.1.length) false) false g:=jq2 fun e he=>(qll ht false e.2.2 (by rw[sj ht];exact(hG.gl'.good e he).t)).1
  obtain⟨d,hd⟩:=jso hG ht hcy;obtain⟨v,hv0⟩:=hd.at0 ((hG.leads 0).1 hc0);obtain⟨B,hB,hB1⟩:=zaj hG hc0 ht hd hv0;obtain⟨l,l1,l2,l3⟩:=za0 hG ht hd hv0 (zfj ht);have hT:∀{w:List Eg},IsW (fun e=>e∈egs J) 0 w g->wtL (wtT (qiq n.2.1.length) false) w=(w.length:Int):=fun hw=>jtc fun e he=>(hG.good e (qyh hw e he).1).t
  have hlv:v.1=(l.length:Int):=by rw[<-l2,hT l1]
  refine .ok B g l ?_ ?_ hfl hG.gl hgs l1 (hB1.trans hlv) fun l' hl' => ?_
  ·unfold dv qdn pd;simp(disch:=omega)only[hV,hr,hg,hx,hB,Wv,rs]
  ·unfold o5;simp only[zaz];simp(disch:=omega)only[hg,hx,l3,Wv,rs]
  ·obtain⟨v',q1,q2⟩:=hd.opt 0 _ (qyi hl');rw[hv0]at q1;cases q1;rw[hT hl']at q2;unfold leV sg at q2;simp only[KP,KI]at q2;omega
end Go.Proofs.YtocndcbobdnagaaGreatDoor
