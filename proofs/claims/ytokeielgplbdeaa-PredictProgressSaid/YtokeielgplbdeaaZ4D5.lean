/-
  Predict: the reference's distances.
-/
import Derived.Test.YtokeielgplbdeaaZ4D4
set_option linter.all false
namespace Go.Proofs.Ytokeielgplbdeaa
open Go.K Go.M
def ou(o:Option wi):af:=match o with|some v=>(v.1,v.2,true,())|none=>(0,0,false,())
def p9(N:Nat)(d:pp):List af:=ca N fun i=>ou (d i)
theorem zb(N:Nat)(d:pp):(p9 N d).length=N:=qpo _ _
theorem v7{N:Nat}{d:pp}{i:Nat}(h:i<N)(z:af):(p9 N d).getD i z=ou (d i):=qsh h
theorem qys(N:Nat)(d:pp)(i:Nat)(v:wi):(p9 N d).set i (v.1,v.2,true,())=p9 N (q05 d i v):=by
 unfold p9;rw[qpp];refine yw fun j _=> ?_
 unfold q05;by_cases h:j=i
 ·rw[if_pos h,if_pos h];rfl
 ·rw[if_neg h,if_neg h]
theorem q4a(a:wi)(o:Option wi)(sl:Bool):qly (a.1,a.2,true,()) (ou o) sl=some (match o with|some b=>ltB sl a b|none=>true):=by
 cases o with
 |none=>rfl
 |some b=>
  show(bif !decide (a.1=b.1)then some (decide (b.1<a.1)==sl)else some (decide (a.2<b.2)))=some (ltB sl a b);unfold ltB;by_cases h:a.1=b.1
  ·rw[if_pos h,decide_eq_true h];rfl
  ·rw[if_neg h,decide_eq_false h];have e:decide (b.1<a.1)= !decide (a.1<b.1):=by rw[Bool.eq_iff_iff];simp;omega
   rw[e];cases decide (a.1<b.1)<;>cases sl<;>rfl
def cr(e:Eg):aq:=mvA e.1 e.2.1 e.2.2
def gg(ts:List af)(sl:Bool)(t:Nat):Int:=bif sl then(ts.getD t af.z).2.1 else(ts.getD t af.z).1
theorem q2c(b:af)(sl:Bool):vb b sl=some (bif sl then b.2.1 else b.1):=by
 unfold vb;cases sl<;>rfl
theorem q2j{ts:List af}{N:Nat}{sl:Bool}(hw:∀t,t<ts.length→0≤gg ts sl t∧gg ts sl t≤1048576)(hN:N≤100000)(nE:List Eg)(hE:∀e∈nE,GdE N ts.length e){B:Nat}(b0:Bool){d:pp}(hd:Bd B d)(hB:B+nE.length≤1000000)(st:List (List Int))(fu:Bool)(fi:Int)(can:List Bool):
  si ts sl st (nE.map cr) fu fi can (b0,0,p9 N d)=some (.inl ((pass (gg ts sl) sl nE (b0,d)).1,p9 N (pass (gg ts sl) sl nE (b0,d)).2)):=by
 have hlA:(nE.map cr).length=nE.length:=by rw[List.length_map]
 have eT:pass (gg ts sl) sl nE (b0,d)=pass (gg ts sl) sl (nE.take nE.length) (b0,d):=by rw[List.take_length]
 rw[eT];refine iz (fun k:Nat=>((pass (gg ts sl) sl (nE.take k) (b0,d)).1,(k:Int),p9 N (pass (gg ts sl) sl (nE.take k) (b0,d)).2)) nE.length (bh (by omega)) _ (fun k hk=> ?_) ?_ _ (by rfl)
 ·have hBd:=Bd.pass (w:=gg ts sl) (sl:=sl) (nE.take k) (s:=(b0,d)) hd fun e he=>hw _ (hE e (List.mem_of_mem_take he)).t
  have hlt:(nE.take k).length=k:=by rw[List.length_take];omega
  rw[hlt]at hBd;have e1:pass (gg ts sl) sl (nE.take (k+1)) (b0,d)=x5 (gg ts sl) sl (pass (gg ts sl) sl (nE.take k) (b0,d)) (nE.getD k (0,0,0)):=by
   rw[cb nE k (0,0,0) hk];unfold pass;rw[List.foldl_append];rfl
  have hg:(nE.map cr).getD k aq.z=cr (nE.getD k (0,0,0)):=gv _ _ _ _ _ hk;have hge:=hE _ (aw (0,0,0) hk);rw[e1];generalize pass (gg ts sl) sl (nE.take k) (b0,d)=s at hBd;obtain⟨b1,d1⟩:=s;generalize nE.getD k (0,0,0)=e at hg hge;obtain⟨i,to,t⟩:=e;have hi:i<N:=hge.a;have hge1:to<N:=hge.b;have hge2:t<ts.length:=hge.t;have hWt:vb (ts.getD t af.z) sl=some (gg ts sl t):=q2c _ _;have hwb:=hw t hge2;have hl:=zb N d1;have h1:(p9 N d1).getD to af.z=ou (d1 to):=v7 hge1 _;have h2:(p9 N d1).getD i af.z=ou (d1 i):=v7 hi _;have hkl:k<(nE.map cr).length:=by rw[hlA];exact hk
  have hm0:(cr (i,to,t)).1=(i:Int):=rfl;have hm1:(cr (i,to,t)).2.1=(to:Int):=rfl;have hm2:(cr (i,to,t)).2.2.1=(t:Int):=rfl;generalize gg ts sl=w at hWt hwb;cases hv:d1 to with
  |none=>
   obtain⟨r1,r2⟩:=qlz (w:=w) (sl:=sl) (d:=d1) (e:=(i,to,t)) hv;have e2:x5 w sl (b1,d1) (i,to,t)=(b1,d1):=by
    unfold x5;simp only[r1,r2,Bool.or_false]
   rw[e2];rw[hv]at h1;have hc:(ou none).2.2.1=false:=rfl;simp(disch:=omega)only[ff,hg,hm0,hm1,hl,h1,hc,Bool.not_false,aj,rs]
  |some v=>
   rw[hv]at h1;have hb:=hBd _ _ hv;have hc1:(ou (some v)).2.2.1=true:=rfl;have hc2:(ou (some v)).1=v.1:=rfl;have hc3:(ou (some v)).2.1=v.2:=rfl;have hls:=q4a (yh (w t) v) (d1 i) sl;unfold yh at hls;simp only[]at hls;have hi2:yl w sl d1 (i,to,t)=match d1 i with|some b=>ltB sl (v.1+w t,v.2+1) b|none=>true:=by
    unfold yl;simp only[];rw[hv];rfl
   rw[←hi2]at hls;cases hI:yl w sl d1 (i,to,t)with
   |false=>
    rw[hI]at hls;have e2:x5 w sl (b1,d1) (i,to,t)=(b1,d1):=by
     unfold x5;simp only[hI,qap hI,Bool.or_false]
    rw[e2];simp(disch:=omega)only[ff,hg,hm0,hm1,hm2,hl,h1,h2,hc1,hc2,hc3,hWt,hls,Bool.not_true,aj,rs]
   |true=>
    rw[hI]at hls;have e2:x5 w sl (b1,d1) (i,to,t)=(true,q05 d1 i (v.1+w t,v.2+1)):=by
     unfold x5 rlx;simp only[hI,hv,Bool.or_true];rfl
    have hs:=qys N d1 i (v.1+w t,v.2+1);simp only[]at hs;rw[e2];simp(disch:=omega)only[ff,hg,hm0,hm1,hm2,hl,h1,h2,hc1,hc2,hc3,hWt,hls,hs,Bool.not_true,aj,rs]
 ·simp(disch:=omega)only[ff,hlA,rs]
structure RG (ts : List af) (sl : Bool) (N g : Nat) (nE : List Eg) : Prop where
 wt : ∀ t, t < ts.length → 0 ≤ gg ts sl t ∧ gg ts sl t ≤ 1048576
 good : ∀ e ∈ nE, GdE N ts.length e
 len : nE.length ≤ 2000
 n100 : N ≤ 100
 gl : g < N
 cyc : qga (fun e => e ∈ nE) (gg ts sl) sl g
theorem q97{ts:List af}{sl:Bool}{N g:Nat}{nE:List Eg}(h:RG ts sl N g nE)(st:List (List Int))(fu:Bool)(fi:Int)(can:List Bool):∀(f k:Nat) (d:pp),k+f=N→Snd (fun e=>e∈nE) (gg ts sl) g d→Atl (fun e=>e∈nE) (gg ts sl) g sl k d→Bd (k*2000) d→
  ∃d',kz (fun a=>fg ts sl st (nE.map cr) fu fi can a (fun a' =>some (.next a')) (fun e=>some (.done e)) (fun r=>some (.ret r))) (f+1) (p9 N d)=some (.inr (p9 N d'))∧
   Snd (fun e=>e∈nE) (gg ts sl) g d' ∧Opt (fun e=>e∈nE) (gg ts sl) g sl d' :=by
 have hN:=h.n100;have hlen:=h.len;intro f
 induction f with
 |zero=>
  intro k d hk hs ha hb;have ho:=quy (N:=N) (fun e he=>(h.good e he).a) h.cyc (by omega) ha;have hp:=qyq (L:=nE) (b:=false) (fun e he=> .inl he) hs ho;have h0:=q2j h.wt (by omega) nE h.good false hb (by omega) st fu fi can;rw[hp]at h0;refine⟨d,?_,hs,ho⟩;rw[ba];simp(disch:=omega)only[fg,h0,Bool.not_false,rs];rfl
 |succ f ih=>
  intro k d hk hs ha hb;have h0:=q2j h.wt (by omega) nE h.good false hb (by omega) st fu fi can;have hb' :=Bd.pass (w:=gg ts sl) (sl:=sl) nE (s:=(false,d)) hb fun e he=>h.wt _ (h.good e he).t
  have hs' :=qlj (w:=gg ts sl) (sl:=sl) (E:=fun e=>e∈nE) (g:=g) nE (false,d) (fun e he=> .inl he) hs;have ha' :=qrg (w:=gg ts sl) (sl:=sl) (E:=fun e=>e∈nE) (g:=g) (L:=nE) (s:=(false,d)) (fun e he=>he) ha;rw[ba];cases hc:(pass (gg ts sl) sl nE (false,d)).1 with
  |false=>
   obtain⟨_,e2,e3⟩:=qm0 _ _ hc;rw[hc,e2]at h0;refine⟨d,?_,hs,qy2 (L:=nE) (fun e he=>he) (fun i v hw hv=>ha i v hw (by omega)) e3⟩;simp(disch:=omega)only[fg,h0,Bool.not_false,rs];rfl
  |true=>
   rw[hc]at h0;obtain⟨d',q1,q2⟩:=ih (k+1) _ (by omega) hs' ha' (hb'.mono (by omega));refine⟨d',?_,q2⟩;rw[←q1];simp(disch:=omega)only[fg,h0,Bool.not_true,rs];rfl
theorem q9c{ts:List af}{sl:Bool}{N g:Nat}{nE:List Eg}(h:RG ts sl N g nE)(st:List (List Int))(hst:st.length=N)(fu:Bool)(can:List Bool):
  ∃d,dx ((st,nE.map cr,fu,()),(g:Int),can,()) ts sl=some (p9 N d)∧Snd (fun e=>e∈nE) (gg ts sl) g d∧Opt (fun e=>e∈nE) (gg ts sl) g sl d:=by
 have hN:=h.n100;have hg:=h.gl;obtain⟨d,h1,h2⟩:=q97 h st fu (g:Int) can N 0 (qki g) (by omega) qp7 qp6 (q2k.mono (Nat.zero_le _));refine⟨d,?_,h2⟩;have e0:List.replicate N (af.z:af)=p9 N fun _=>none:=qex N _
 have e1:(List.replicate N (af.z:af)).set g (0,0,true,())=p9 N (qki g):=by
  rw[e0];refine(qys N (fun _=>none) g (0,0)).trans ?_;congr 1
 have hl:(List.replicate N (af.z:af)).length=N:=List.length_replicate;have hz:(List.replicate N (af.z:af)).getD g af.z=af.z:=by
  rw[e0];exact v7 hg _
 have hz1:(af.z).1=(0:Int):=rfl;have hz2:(af.z).2.1=(0:Int):=rfl;have hL:sj ts sl st (nE.map cr) fu (g:Int) can (p9 N (qki g))=some (.inr (p9 N d)):=iy h1 (bh (by omega));unfold dx;simp only[hst];rw[Int.toNat_natCast];simp(disch:=omega)only[hl,hz,hz1,hz2,e1,hL,rs]
end Go.Proofs.Ytokeielgplbdeaa
