/-
  Predict: best returns what is best over all walks.
-/
import Derived.Test.YtokeielgplbdeaaZ8D2
set_option linter.all false
namespace Go.Proofs.Ytokeielgplbdeaa
open Go.K Go.M
def n5(o:Option xf):ae:=match o with|some v=>(true,v.1,v.2,())|none=>(false,0,0,())
def nm(N:Nat)(d:p0):List ae:=bq N fun i=>n5 (d i)
theorem zp(N:Nat)(d:p0):(nm N d).length=N:=qm3 _ _
theorem wu{N:Nat}{d:p0}{i:Nat}(h:i<N)(z:ae):(nm N d).getD i z=n5 (d i):=qua h
theorem q09(N:Nat)(d:p0)(i:Nat)(v:xf):(nm N d).set i (true,v.1,v.2,())=nm N (q3p d i v):=by
 unfold nm;rw[qra];refine zf fun j _=> ?_
 unfold q3p;by_cases h:j=i
 ·rw[if_pos h,if_pos h];rfl
 ·rw[if_neg h,if_neg h]
def Bd(B:Nat)(d:p0):Prop:=∀i v,d i=some v→0≤v.1∧v.1≤1048576*v.2∧0≤v.2∧v.2≤(B:Int)
theorem Bd.mono{B B' :Nat}{d:p0}(h:Bd B d)(hB:B≤B'):Bd B' d:=fun i v hv=>by have:=h i v hv;omega
theorem Bd.rlx{B:Nat}{d:p0}(h:Bd B d){w:Nat→Int}{sl:Bool}{e:Eg}(hw:0≤w e.2.2∧w e.2.2≤1048576):Bd (B+1) (rlx w sl d e):=by
 cases hi:y5 w sl d e with
 |false=>rw[qa7 hi];exact h.mono (by omega)
 |true=>
  unfold Go.Proofs.Ytokeielgplbdeaa.rlx;rw[hi];cases hv:d e.2.1 with
  |none=>exact h.mono (by omega)
  |some v=>
   intro i u hu;have hu:(if i=e.1 then some (yx (w e.2.2) v)else d i)=some u:=hu;by_cases hc:i=e.1
   ·rw[if_pos hc]at hu;cases hu;have:=h _ _ hv;unfold yx;simp only[];omega
   ·rw[if_neg hc]at hu;have:=h _ _ hu;omega
theorem Bd.pass{w:Nat→Int}{sl:Bool}:∀(L:List Eg) {B:Nat} {s:Bool×p0},Bd B s.2→(∀e∈L,0≤w e.2.2∧w e.2.2≤1048576)→Bd (B+L.length) (pass w sl L s).2
 |[],B,s,h,_=>h
 |e::L,B,s,h,hw=>by
  have:=Bd.pass (sl:=sl) L (B:=B+1) (s:=yi w sl s e) (h.rlx (hw e List.mem_cons_self)) fun e' he' =>hw e' (List.mem_cons_of_mem _ he')
  rw[List.length_cons,show B+(L.length+1)=B+1+L.length by omega];exact this
theorem jdp(a:xf)(o:Option xf)(sl:Bool):jf (true,a.1,a.2,()) (n5 o) sl=some (match o with|some b=>ltB sl a b|none=>true):=by
 cases o with
 |none=>rfl
 |some b=>
  show(bif !decide (a.1=b.1)then some (!(decide (a.1<b.1)==sl))else some (decide (a.2<b.2)))=some (ltB sl a b);unfold ltB;by_cases h:a.1=b.1
  ·rw[if_pos h,decide_eq_true h];rfl
  ·rw[if_neg h,decide_eq_false h];cases decide (a.1<b.1)<;>cases sl<;>rfl
def bw(q:Nat×Nat):ab:=((q.1:Int),(q.2:Int),())
def kf(p:Nat×List (Nat×Nat)):Int×List ab:=((p.1:Int),p.2.map bw)
def edA(i:Nat)(A:List (Nat×Nat)):List Eg:=A.map fun q=>(i,q.1,q.2)
def y4(es:List (Nat×List (Nat×Nat))):List Eg:=es.flatMap fun p=>edA p.1 p.2
structure GdE (N TT : Nat) (e : Eg) : Prop where
 a : e.1 < N
 b : e.2.1 < N
 t : e.2.2 < TT
structure Wt (W : Int → Option Int) (w : Nat → Int) (TT : Nat) : Prop where
 eq : ∀ t, t < TT → W (t : Int) = some (w t)
 b : ∀ t, t < TT → 0 ≤ w t ∧ w t ≤ 1048576
theorem jcn{W:Int→Option Int}{w:Nat→Int}{N TT:Nat}(hW:Wt W w TT)(sl:Bool)(i:Nat)(hi:i<N)(hN:N≤100000)(A:List (Nat×Nat))(hA:∀e∈edA i A,GdE N TT e){B:Nat}(b0:Bool){d:p0}(hd:Bd B d)(hB:B+A.length≤1000000)(v24 v25:Int)(v28:List (Int×List ab))(g30:List (Int×List ab))(g31 g32:Int):
  q82 W sl (i:Int) v24 v25 v28 (A.map bw) ((A.map bw).length:Int) g30 g31 g32 (b0,0,nm N d)=some (.inl ((pass w sl (edA i A) (b0,d)).1,nm N (pass w sl (edA i A) (b0,d)).2)):=by
 have hlA:(A.map bw).length=A.length:=by rw[List.length_map]
 have eT:edA i A=edA i (A.take A.length):=by rw[List.take_length]
 rw[hlA];rw[eT];refine jy (fun k:Nat=>((pass w sl (edA i (A.take k)) (b0,d)).1,(k:Int),nm N (pass w sl (edA i (A.take k)) (b0,d)).2)) A.length (bm (by omega)) _ (fun k hk=> ?_) ?_ _ (by rfl)
 ·have hBd:=Bd.pass (w:=w) (sl:=sl) (edA i (A.take k)) (s:=(b0,d)) hd fun e he=>hW.b _ (hA e (by
   unfold edA at he⊢;obtain⟨q,hq,rfl⟩:=List.mem_map.1 he;exact List.mem_map.2 ⟨q,List.mem_of_mem_take hq,rfl⟩)).t
  have hlt:(edA i (A.take k)).length=k:=by unfold edA;rw[List.length_map,List.length_take];omega
  rw[hlt]at hBd;have e1:pass w sl (edA i (A.take (k+1))) (b0,d)=yi w sl (pass w sl (edA i (A.take k)) (b0,d)) (i,(A.getD k (0,0)).1,(A.getD k (0,0)).2):=by
   rw[cr A k (0,0) hk];unfold edA;rw[List.map_append];unfold pass;rw[List.foldl_append];rfl
  have hg:(A.map bw).getD k ab.z=bw (A.getD k (0,0)):=i9 _ _ _ _ _ hk;have hge:=hA (i,(A.getD k (0,0)).1,(A.getD k (0,0)).2) (List.mem_map.2 ⟨_,aw (0,0) hk,rfl⟩);rw[e1];generalize pass w sl (edA i (A.take k)) (b0,d)=s at hBd;obtain⟨b1,d1⟩:=s;generalize A.getD k (0,0)=q at hg hge;obtain⟨to,t⟩:=q;have hge1:to<N:=hge.b;have hge2:t<TT:=hge.t;have hWt:=hW.eq t hge2;have hwb:=hW.b t hge2;have hl:=zp N d1;have h1:(nm N d1).getD to ae.z=n5 (d1 to):=wu hge1 _;have h2:(nm N d1).getD i ae.z=n5 (d1 i):=wu hi _;have hkl:k<(A.map bw).length:=by rw[hlA];exact hk
  have hm1:(bw (to,t)).1=(to:Int):=rfl;have hm2:(bw (to,t)).2.1=(t:Int):=rfl;cases hv:d1 to with
  |none=>
   obtain⟨r1,r2⟩:=qmx (w:=w) (sl:=sl) (d:=d1) (e:=(i,to,t)) hv;have e2:yi w sl (b1,d1) (i,to,t)=(b1,d1):=by
    unfold yi;simp only[r1,r2,Bool.or_false]
   rw[e2];rw[hv]at h1;have hc:(n5 none).1=false:=rfl;simp(disch:=omega)only[qk6,hg,hm1,hl,h1,hc,Bool.not_false,al,rs]
  |some v=>
   rw[hv]at h1;have hb:=hBd _ _ hv;have hc1:(n5 (some v)).1=true:=rfl;have hc2:(n5 (some v)).2.1=v.1:=rfl;have hc3:(n5 (some v)).2.2.1=v.2:=rfl;have hls:=jdp (yx (w t) v) (d1 i) sl;unfold yx at hls;simp only[]at hls;have hi2:y5 w sl d1 (i,to,t)=match d1 i with|some b=>ltB sl (v.1+w t,v.2+1) b|none=>true:=by
    unfold y5;simp only[];rw[hv];rfl
   rw[←hi2]at hls;cases hI:y5 w sl d1 (i,to,t)with
   |false=>
    rw[hI]at hls;have e2:yi w sl (b1,d1) (i,to,t)=(b1,d1):=by
     unfold yi;simp only[hI,qa7 hI,Bool.or_false]
    rw[e2];simp(disch:=omega)only[qk6,hg,hm1,hm2,hl,h1,h2,hc1,hc2,hc3,hWt,hls,Bool.not_true,al,rs]
   |true=>
    rw[hI]at hls;have e2:yi w sl (b1,d1) (i,to,t)=(true,q3p d1 i (v.1+w t,v.2+1)):=by
     unfold yi rlx;simp only[hI,hv,Bool.or_true];rfl
    have hs:=q09 N d1 i (v.1+w t,v.2+1);simp only[]at hs;rw[e2];simp(disch:=omega)only[qk6,hg,hm1,hm2,hl,h1,h2,hc1,hc2,hc3,hWt,hls,hs,Bool.not_true,al,rs]
 ·simp(disch:=omega)only[qk6,hlA,rs]
end Go.Proofs.Ytokeielgplbdeaa
