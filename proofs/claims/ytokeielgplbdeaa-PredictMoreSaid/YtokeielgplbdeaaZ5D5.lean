/-
  Predict: the reference's distances.
-/
import Derived.Test.YtokeielgplbdeaaZ5D4
set_option linter.all false
namespace Go.Proofs.Ytokeielgplbdeaa
open Go.K Go.M
def og(o:Option ve):af:=match o with|some v=>(v.1,v.2,true,())|none=>(0,0,false,())
def p2(N:Nat)(d:pd):List af:=ch N fun i=>og (d i)
theorem yl(N:Nat)(d:pd):(p2 N d).length=N:=qoj _ _
theorem vi{N:Nat}{d:pd}{i:Nat}(h:i<N)(z:af):(p2 N d).getD i z=og (d i):=qre h
theorem qxq(N:Nat)(d:pd)(i:Nat)(v:ve):(p2 N d).set i (v.1,v.2,true,())=p2 N (qz2 d i v):=by
 unfold p2;rw[qok];refine qcr fun j _=> ?_
 unfold qz2;by_cases h:j=i
 ·rw[if_pos h,if_pos h];rfl
 ·rw[if_neg h,if_neg h]
theorem q22(a:ve)(o:Option ve)(sl:Bool):qk2 (a.1,a.2,true,()) (og o) sl=some (match o with|some b=>ltB sl a b|none=>true):=by
 cases o with
 |none=>rfl
 |some b=>
  show(bif !decide (a.1=b.1)then some (decide (b.1<a.1)==sl)else some (decide (a.2<b.2)))=some (ltB sl a b);unfold ltB;by_cases h:a.1=b.1
  ·rw[if_pos h,decide_eq_true h];rfl
  ·rw[if_neg h,decide_eq_false h];have e:decide (b.1<a.1)= !decide (a.1<b.1):=by rw[Bool.eq_iff_iff];simp;omega
   rw[e];cases decide (a.1<b.1)<;>cases sl<;>rfl
def cw(e:Eg):au:=mvA e.1 e.2.1 e.2.2
def j9(ts:List af)(sl:Bool)(t:Nat):Int:=bif sl then(ts.getD t af.z).2.1 else(ts.getD t af.z).1
theorem q06(b:af)(sl:Bool):uu b sl=some (bif sl then b.2.1 else b.1):=by
 unfold uu;cases sl<;>rfl
theorem q1d{ts:List af}{N:Nat}{sl:Bool}(hw:∀t,t<ts.length→0≤j9 ts sl t∧j9 ts sl t≤1048576)(hN:N≤100000)(nE:List Eg)(hE:∀e∈nE,GdE N ts.length e){B:Nat}(b0:Bool){d:pd}(hd:Bd B d)(hB:B+nE.length≤1000000)(st:List (List Int))(fu:Bool)(fi:Int)(can:List Bool):
  rn ts sl st (nE.map cw) fu fi can (b0,0,p2 N d)=some (.inl ((pass (j9 ts sl) sl nE (b0,d)).1,p2 N (pass (j9 ts sl) sl nE (b0,d)).2)):=by
 have hlA:(nE.map cw).length=nE.length:=by rw[List.length_map]
 have eT:pass (j9 ts sl) sl nE (b0,d)=pass (j9 ts sl) sl (nE.take nE.length) (b0,d):=by rw[List.take_length]
 rw[eT];refine jo (fun k:Nat=>((pass (j9 ts sl) sl (nE.take k) (b0,d)).1,(k:Int),p2 N (pass (j9 ts sl) sl (nE.take k) (b0,d)).2)) nE.length (bz (by omega)) _ (fun k hk=> ?_) ?_ _ (by rfl)
 ·have hBd:=Bd.pass (w:=j9 ts sl) (sl:=sl) (nE.take k) (s:=(b0,d)) hd fun e he=>hw _ (hE e (List.mem_of_mem_take he)).t
  have hlt:(nE.take k).length=k:=by rw[List.length_take];omega
  rw[hlt]at hBd;have e1:pass (j9 ts sl) sl (nE.take (k+1)) (b0,d)=xj (j9 ts sl) sl (pass (j9 ts sl) sl (nE.take k) (b0,d)) (nE.getD k (0,0,0)):=by
   rw[cx nE k (0,0,0) hk];unfold pass;rw[List.foldl_append];rfl
  have hg:(nE.map cw).getD k au.z=cw (nE.getD k (0,0,0)):=i4 _ _ _ _ _ hk;have hge:=hE _ (ba (0,0,0) hk);rw[e1];generalize pass (j9 ts sl) sl (nE.take k) (b0,d)=s at hBd;obtain⟨b1,d1⟩:=s;generalize nE.getD k (0,0,0)=e at hg hge;obtain⟨i,to,t⟩:=e;have hi:i<N:=hge.a;have hge1:to<N:=hge.b;have hge2:t<ts.length:=hge.t;have hWt:uu (ts.getD t af.z) sl=some (j9 ts sl t):=q06 _ _;have hwb:=hw t hge2;have hl:=yl N d1;have h1:(p2 N d1).getD to af.z=og (d1 to):=vi hge1 _;have h2:(p2 N d1).getD i af.z=og (d1 i):=vi hi _;have hkl:k<(nE.map cw).length:=by rw[hlA];exact hk
  have hm0:(cw (i,to,t)).1=(i:Int):=rfl;have hm1:(cw (i,to,t)).2.1=(to:Int):=rfl;have hm2:(cw (i,to,t)).2.2.1=(t:Int):=rfl;generalize j9 ts sl=w at hWt hwb;cases hv:d1 to with
  |none=>
   obtain⟨r1,r2⟩:=qk3 (w:=w) (sl:=sl) (d:=d1) (e:=(i,to,t)) hv;have e2:xj w sl (b1,d1) (i,to,t)=(b1,d1):=by
    unfold xj;simp only[r1,r2,Bool.or_false]
   rw[e2];rw[hv]at h1;have hc:(og none).2.2.1=false:=rfl;simp(disch:=omega)only[fh,hg,hm0,hm1,hl,h1,hc,Bool.not_false,aq,rs]
  |some v=>
   rw[hv]at h1;have hb:=hBd _ _ hv;have hc1:(og (some v)).2.2.1=true:=rfl;have hc2:(og (some v)).1=v.1:=rfl;have hc3:(og (some v)).2.1=v.2:=rfl;have hls:=q22 (xx (w t) v) (d1 i) sl;unfold xx at hls;simp only[]at hls;have hi2:x3 w sl d1 (i,to,t)=match d1 i with|some b=>ltB sl (v.1+w t,v.2+1) b|none=>true:=by
    unfold x3;simp only[];rw[hv];rfl
   rw[←hi2]at hls;cases hI:x3 w sl d1 (i,to,t)with
   |false=>
    rw[hI]at hls;have e2:xj w sl (b1,d1) (i,to,t)=(b1,d1):=by
     unfold xj;simp only[hI,z5 hI,Bool.or_false]
    rw[e2];simp(disch:=omega)only[fh,hg,hm0,hm1,hm2,hl,h1,h2,hc1,hc2,hc3,hWt,hls,Bool.not_true,aq,rs]
   |true=>
    rw[hI]at hls;have e2:xj w sl (b1,d1) (i,to,t)=(true,qz2 d1 i (v.1+w t,v.2+1)):=by
     unfold xj rlx;simp only[hI,hv,Bool.or_true];rfl
    have hs:=qxq N d1 i (v.1+w t,v.2+1);simp only[]at hs;rw[e2];simp(disch:=omega)only[fh,hg,hm0,hm1,hm2,hl,h1,h2,hc1,hc2,hc3,hWt,hls,hs,Bool.not_true,aq,rs]
 ·simp(disch:=omega)only[fh,hlA,rs]
structure RG (ts : List af) (sl : Bool) (N g : Nat) (nE : List Eg) : Prop where
 wt : ∀ t, t < ts.length → 0 ≤ j9 ts sl t ∧ j9 ts sl t ≤ 1048576
 good : ∀ e ∈ nE, GdE N ts.length e
 len : nE.length ≤ 2000
 n100 : N ≤ 100
 gl : g < N
 cyc : qfa (fun e => e ∈ nE) (j9 ts sl) sl g
theorem q8z{ts:List af}{sl:Bool}{N g:Nat}{nE:List Eg}(h:RG ts sl N g nE)(st:List (List Int))(fu:Bool)(fi:Int)(can:List Bool):∀(f k:Nat) (d:pd),k+f=N→Snd (fun e=>e∈nE) (j9 ts sl) g d→Atl (fun e=>e∈nE) (j9 ts sl) g sl k d→Bd (k*2000) d→
  ∃d',lb (fun a=>fj ts sl st (nE.map cw) fu fi can a (fun a' =>some (.next a')) (fun e=>some (.done e)) (fun r=>some (.ret r))) (f+1) (p2 N d)=some (.inr (p2 N d'))∧
   Snd (fun e=>e∈nE) (j9 ts sl) g d' ∧Opt (fun e=>e∈nE) (j9 ts sl) g sl d' :=by
 have hN:=h.n100;have hlen:=h.len;intro f
 induction f with
 |zero=>
  intro k d hk hs ha hb;have ho:=qtx (N:=N) (fun e he=>(h.good e he).a) h.cyc (by omega) ha;have hp:=qxo (L:=nE) (b:=false) (fun e he=> .inl he) hs ho;have h0:=q1d h.wt (by omega) nE h.good false hb (by omega) st fu fi can;rw[hp]at h0;refine⟨d,?_,hs,ho⟩;rw[bh];simp(disch:=omega)only[fj,h0,Bool.not_false,rs];rfl
 |succ f ih=>
  intro k d hk hs ha hb;have h0:=q1d h.wt (by omega) nE h.good false hb (by omega) st fu fi can;have hb' :=Bd.pass (w:=j9 ts sl) (sl:=sl) nE (s:=(false,d)) hb fun e he=>h.wt _ (h.good e he).t
  have hs' :=qkj (w:=j9 ts sl) (sl:=sl) (E:=fun e=>e∈nE) (g:=g) nE (false,d) (fun e he=> .inl he) hs;have ha' :=qp8 (w:=j9 ts sl) (sl:=sl) (E:=fun e=>e∈nE) (g:=g) (L:=nE) (s:=(false,d)) (fun e he=>he) ha;rw[bh];cases hc:(pass (j9 ts sl) sl nE (false,d)).1 with
  |false=>
   obtain⟨_,e2,e3⟩:=ql1 _ _ hc;rw[hc,e2]at h0;refine⟨d,?_,hs,qxz (L:=nE) (fun e he=>he) (fun i v hw hv=>ha i v hw (by omega)) e3⟩;simp(disch:=omega)only[fj,h0,Bool.not_false,rs];rfl
  |true=>
   rw[hc]at h0;obtain⟨d',q1,q2⟩:=ih (k+1) _ (by omega) hs' ha' (hb'.mono (by omega));refine⟨d',?_,q2⟩;rw[←q1];simp(disch:=omega)only[fj,h0,Bool.not_true,rs];rfl
theorem q73{ts:List af}{sl:Bool}{N g:Nat}{nE:List Eg}(h:RG ts sl N g nE)(st:List (List Int))(hst:st.length=N)(fu:Bool)(can:List Bool):
  ∃d,d9 ((st,nE.map cw,fu,()),(g:Int),can,()) ts sl=some (p2 N d)∧Snd (fun e=>e∈nE) (j9 ts sl) g d∧Opt (fun e=>e∈nE) (j9 ts sl) g sl d:=by
 have hN:=h.n100;have hg:=h.gl;obtain⟨d,h1,h2⟩:=q8z h st fu (g:Int) can N 0 (qjl g) (by omega) qo0 qoz (q1e.mono (Nat.zero_le _));refine⟨d,?_,h2⟩;have e0:List.replicate N (af.z:af)=p2 N fun _=>none:=qg0 N _
 have e1:(List.replicate N (af.z:af)).set g (0,0,true,())=p2 N (qjl g):=by
  rw[e0];refine(qxq N (fun _=>none) g (0,0)).trans ?_;congr 1
 have hl:(List.replicate N (af.z:af)).length=N:=List.length_replicate;have hz:(List.replicate N (af.z:af)).getD g af.z=af.z:=by
  rw[e0];exact vi hg _
 have hz1:(af.z).1=(0:Int):=rfl;have hz2:(af.z).2.1=(0:Int):=rfl;have hL:ro ts sl st (nE.map cw) fu (g:Int) can (p2 N (qjl g))=some (.inr (p2 N d)):=jm h1 (bz (by omega));unfold d9;simp only[hst];rw[Int.toNat_natCast];simp(disch:=omega)only[hl,hz,hz1,hz2,e1,hL,rs]
end Go.Proofs.Ytokeielgplbdeaa
