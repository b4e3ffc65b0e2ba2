/-
  Predict: the reference's distances.
-/
import Derived.Test.YtokeielgplbdeaaZ8D4
set_option linter.all false
namespace Go.Proofs.Ytokeielgplbdeaa
open Go.K Go.M
def o6(o:Option xf):af:=match o with|some v=>(v.1,v.2,true,())|none=>(0,0,false,())
def qj(N:Nat)(d:p0):List af:=bq N fun i=>o6 (d i)
theorem zq(N:Nat)(d:p0):(qj N d).length=N:=qm3 _ _
theorem wv{N:Nat}{d:p0}{i:Nat}(h:i<N)(z:af):(qj N d).getD i z=o6 (d i):=qua h
theorem q1a(N:Nat)(d:p0)(i:Nat)(v:xf):(qj N d).set i (v.1,v.2,true,())=qj N (q3p d i v):=by
 unfold qj;rw[qra];refine zf fun j _=> ?_
 unfold q3p;by_cases h:j=i
 ·rw[if_pos h,if_pos h];rfl
 ·rw[if_neg h,if_neg h]
theorem q60(a:xf)(o:Option xf)(sl:Bool):qmw (a.1,a.2,true,()) (o6 o) sl=some (match o with|some b=>ltB sl a b|none=>true):=by
 cases o with
 |none=>rfl
 |some b=>
  show(bif !decide (a.1=b.1)then some (decide (b.1<a.1)==sl)else some (decide (a.2<b.2)))=some (ltB sl a b);unfold ltB;by_cases h:a.1=b.1
  ·rw[if_pos h,decide_eq_true h];rfl
  ·rw[if_neg h,decide_eq_false h];have e:decide (b.1<a.1)= !decide (a.1<b.1):=by rw[Bool.eq_iff_iff];simp;omega
   rw[e];cases decide (a.1<b.1)<;>cases sl<;>rfl
def cn(e:Eg):aq:=mvA e.1 e.2.1 e.2.2
def kd(ts:List af)(sl:Bool)(t:Nat):Int:=bif sl then(ts.getD t af.z).2.1 else(ts.getD t af.z).1
theorem q4v(b:af)(sl:Bool):v7 b sl=some (bif sl then b.2.1 else b.1):=by
 unfold v7;cases sl<;>rfl
theorem q42{ts:List af}{N:Nat}{sl:Bool}(hw:∀t,t<ts.length→0≤kd ts sl t∧kd ts sl t≤1048576)(hN:N≤100000)(nE:List Eg)(hE:∀e∈nE,GdE N ts.length e){B:Nat}(b0:Bool){d:p0}(hd:Bd B d)(hB:B+nE.length≤1000000)(st:List (List Int))(fu:Bool)(fi:Int)(can:List Bool):
  s8 ts sl st (nE.map cn) fu fi can (b0,0,qj N d)=some (.inl ((pass (kd ts sl) sl nE (b0,d)).1,qj N (pass (kd ts sl) sl nE (b0,d)).2)):=by
 have hlA:(nE.map cn).length=nE.length:=by rw[List.length_map]
 have eT:pass (kd ts sl) sl nE (b0,d)=pass (kd ts sl) sl (nE.take nE.length) (b0,d):=by rw[List.take_length]
 rw[eT];refine jy (fun k:Nat=>((pass (kd ts sl) sl (nE.take k) (b0,d)).1,(k:Int),qj N (pass (kd ts sl) sl (nE.take k) (b0,d)).2)) nE.length (bm (by omega)) _ (fun k hk=> ?_) ?_ _ (by rfl)
 ·have hBd:=Bd.pass (w:=kd ts sl) (sl:=sl) (nE.take k) (s:=(b0,d)) hd fun e he=>hw _ (hE e (List.mem_of_mem_take he)).t
  have hlt:(nE.take k).length=k:=by rw[List.length_take];omega
  rw[hlt]at hBd;have e1:pass (kd ts sl) sl (nE.take (k+1)) (b0,d)=yi (kd ts sl) sl (pass (kd ts sl) sl (nE.take k) (b0,d)) (nE.getD k (0,0,0)):=by
   rw[cr nE k (0,0,0) hk];unfold pass;rw[List.foldl_append];rfl
  have hg:(nE.map cn).getD k aq.z=cn (nE.getD k (0,0,0)):=i9 _ _ _ _ _ hk;have hge:=hE _ (aw (0,0,0) hk);rw[e1];generalize pass (kd ts sl) sl (nE.take k) (b0,d)=s at hBd;obtain⟨b1,d1⟩:=s;generalize nE.getD k (0,0,0)=e at hg hge;obtain⟨i,to,t⟩:=e;have hi:i<N:=hge.a;have hge1:to<N:=hge.b;have hge2:t<ts.length:=hge.t;have hWt:v7 (ts.getD t af.z) sl=some (kd ts sl t):=q4v _ _;have hwb:=hw t hge2;have hl:=zq N d1;have h1:(qj N d1).getD to af.z=o6 (d1 to):=wv hge1 _;have h2:(qj N d1).getD i af.z=o6 (d1 i):=wv hi _;have hkl:k<(nE.map cn).length:=by rw[hlA];exact hk
  have hm0:(cn (i,to,t)).1=(i:Int):=rfl;have hm1:(cn (i,to,t)).2.1=(to:Int):=rfl;have hm2:(cn (i,to,t)).2.2.1=(t:Int):=rfl;generalize kd ts sl=w at hWt hwb;cases hv:d1 to with
  |none=>
   obtain⟨r1,r2⟩:=qmx (w:=w) (sl:=sl) (d:=d1) (e:=(i,to,t)) hv;have e2:yi w sl (b1,d1) (i,to,t)=(b1,d1):=by
    unfold yi;simp only[r1,r2,Bool.or_false]
   rw[e2];rw[hv]at h1;have hc:(o6 none).2.2.1=false:=rfl;simp(disch:=omega)only[fg,hg,hm0,hm1,hl,h1,hc,Bool.not_false,al,rs]
  |some v=>
   rw[hv]at h1;have hb:=hBd _ _ hv;have hc1:(o6 (some v)).2.2.1=true:=rfl;have hc2:(o6 (some v)).1=v.1:=rfl;have hc3:(o6 (some v)).2.1=v.2:=rfl;have hls:=q60 (yx (w t) v) (d1 i) sl;unfold yx at hls;simp only[]at hls;have hi2:y5 w sl d1 (i,to,t)=match d1 i with|some b=>ltB sl (v.1+w t,v.2+1) b|none=>true:=by
    unfold y5;simp only[];rw[hv];rfl
   rw[←hi2]at hls;cases hI:y5 w sl d1 (i,to,t)with
   |false=>
    rw[hI]at hls;have e2:yi w sl (b1,d1) (i,to,t)=(b1,d1):=by
     unfold yi;simp only[hI,qa7 hI,Bool.or_false]
    rw[e2];simp(disch:=omega)only[fg,hg,hm0,hm1,hm2,hl,h1,h2,hc1,hc2,hc3,hWt,hls,Bool.not_true,al,rs]
   |true=>
    rw[hI]at hls;have e2:yi w sl (b1,d1) (i,to,t)=(true,q3p d1 i (v.1+w t,v.2+1)):=by
     unfold yi rlx;simp only[hI,hv,Bool.or_true];rfl
    have hs:=q1a N d1 i (v.1+w t,v.2+1);simp only[]at hs;rw[e2];simp(disch:=omega)only[fg,hg,hm0,hm1,hm2,hl,h1,h2,hc1,hc2,hc3,hWt,hls,hs,Bool.not_true,al,rs]
 ·simp(disch:=omega)only[fg,hlA,rs]
structure RG (ts : List af) (sl : Bool) (N g : Nat) (nE : List Eg) : Prop where
 wt : ∀ t, t < ts.length → 0 ≤ kd ts sl t ∧ kd ts sl t ≤ 1048576
 good : ∀ e ∈ nE, GdE N ts.length e
 len : nE.length ≤ 2000
 n100 : N ≤ 100
 gl : g < N
 cyc : qgm (fun e => e ∈ nE) (kd ts sl) sl g
theorem jc6{ts:List af}{sl:Bool}{N g:Nat}{nE:List Eg}(h:RG ts sl N g nE)(st:List (List Int))(fu:Bool)(fi:Int)(can:List Bool):∀(f k:Nat) (d:p0),k+f=N→Snd (fun e=>e∈nE) (kd ts sl) g d→Atl (fun e=>e∈nE) (kd ts sl) g sl k d→Bd (k*2000) d→
  ∃d',la (fun a=>fh ts sl st (nE.map cn) fu fi can a (fun a' =>some (.next a')) (fun e=>some (.done e)) (fun r=>some (.ret r))) (f+1) (qj N d)=some (.inr (qj N d'))∧
   Snd (fun e=>e∈nE) (kd ts sl) g d' ∧Opt (fun e=>e∈nE) (kd ts sl) g sl d' :=by
 have hN:=h.n100;have hlen:=h.len;intro f
 induction f with
 |zero=>
  intro k d hk hs ha hb;have ho:=qw5 (N:=N) (fun e he=>(h.good e he).a) h.cyc (by omega) ha;have hp:=q08 (L:=nE) (b:=false) (fun e he=> .inl he) hs ho;have h0:=q42 h.wt (by omega) nE h.good false hb (by omega) st fu fi can;rw[hp]at h0;refine⟨d,?_,hs,ho⟩;rw[a8];simp(disch:=omega)only[fh,h0,Bool.not_false,rs];rfl
 |succ f ih=>
  intro k d hk hs ha hb;have h0:=q42 h.wt (by omega) nE h.good false hb (by omega) st fu fi can;have hb' :=Bd.pass (w:=kd ts sl) (sl:=sl) nE (s:=(false,d)) hb fun e he=>h.wt _ (h.good e he).t
  have hs' :=qmc (w:=kd ts sl) (sl:=sl) (E:=fun e=>e∈nE) (g:=g) nE (false,d) (fun e he=> .inl he) hs;have ha' :=qsy (w:=kd ts sl) (sl:=sl) (E:=fun e=>e∈nE) (g:=g) (L:=nE) (s:=(false,d)) (fun e he=>he) ha;rw[a8];cases hc:(pass (kd ts sl) sl nE (false,d)).1 with
  |false=>
   obtain⟨_,e2,e3⟩:=qn3 _ _ hc;rw[hc,e2]at h0;refine⟨d,?_,hs,q1j (L:=nE) (fun e he=>he) (fun i v hw hv=>ha i v hw (by omega)) e3⟩;simp(disch:=omega)only[fh,h0,Bool.not_false,rs];rfl
  |true=>
   rw[hc]at h0;obtain⟨d',q1,q2⟩:=ih (k+1) _ (by omega) hs' ha' (hb'.mono (by omega));refine⟨d',?_,q2⟩;rw[←q1];simp(disch:=omega)only[fh,h0,Bool.not_true,rs];rfl
theorem jcc{ts:List af}{sl:Bool}{N g:Nat}{nE:List Eg}(h:RG ts sl N g nE)(st:List (List Int))(hst:st.length=N)(fu:Bool)(can:List Bool):
  ∃d,d8 ((st,nE.map cn,fu,()),(g:Int),can,()) ts sl=some (qj N d)∧Snd (fun e=>e∈nE) (kd ts sl) g d∧Opt (fun e=>e∈nE) (kd ts sl) g sl d:=by
 have hN:=h.n100;have hg:=h.gl;obtain⟨d,h1,h2⟩:=jc6 h st fu (g:Int) can N 0 (qle g) (by omega) qru qrt (q43.mono (Nat.zero_le _));refine⟨d,?_,h2⟩;have e0:List.replicate N (af.z:af)=qj N fun _=>none:=qe6 N _
 have e1:(List.replicate N (af.z:af)).set g (0,0,true,())=qj N (qle g):=by
  rw[e0];refine(q1a N (fun _=>none) g (0,0)).trans ?_;congr 1
 have hl:(List.replicate N (af.z:af)).length=N:=List.length_replicate;have hz:(List.replicate N (af.z:af)).getD g af.z=af.z:=by
  rw[e0];exact wv hg _
 have hz1:(af.z).1=(0:Int):=rfl;have hz2:(af.z).2.1=(0:Int):=rfl;have hL:s9 ts sl st (nE.map cn) fu (g:Int) can (qj N (qle g))=some (.inr (qj N d)):=ib h1 (bm (by omega));unfold d8;simp only[hst];rw[Int.toNat_natCast];simp(disch:=omega)only[hl,hz,hz1,hz2,e1,hL,rs]
end Go.Proofs.Ytokeielgplbdeaa
