/-
  Predict: best returns what is best over all walks.
-/
import Derived.Test.YtokeielgplbdeaaZ3D2
set_option linter.all false
namespace Go.Proofs.Ytokeielgplbdeaa
open Go.K Go.M
def nq(o:Option x0):ae:=match o with|some v=>(true,v.1,v.2,())|none=>(false,0,0,())
def m8(N:Nat)(d:pz):List ae:=ce N fun i=>nq (d i)
theorem y4(N:Nat)(d:pz):(m8 N d).length=N:=qsx _ _
theorem vq{N:Nat}{d:pz}{i:Nat}(h:i<N)(z:ae):(m8 N d).getD i z=nq (d i):=qv8 h
theorem q27(N:Nat)(d:pz)(i:Nat)(v:x0):(m8 N d).set i (true,v.1,v.2,())=m8 N (q5s d i v):=by
 unfold m8;rw[qsy];refine qd1 fun j _=> ?_
 unfold q5s;by_cases h:j=i
 ·rw[if_pos h,if_pos h];rfl
 ·rw[if_neg h,if_neg h]
def Bd(B:Nat)(d:pz):Prop:=∀i v,d i=some v→0≤v.1∧v.1≤1048576*v.2∧0≤v.2∧v.2≤(B:Int)
theorem Bd.mono{B B' :Nat}{d:pz}(h:Bd B d)(hB:B≤B'):Bd B' d:=fun i v hv=>by have:=h i v hv;omega
theorem Bd.rlx{B:Nat}{d:pz}(h:Bd B d){w:Nat→Int}{sl:Bool}{e:Eg}(hw:0≤w e.2.2∧w e.2.2≤1048576):Bd (B+1) (rlx w sl d e):=by
 cases hi:yi w sl d e with
 |false=>rw[qav hi];exact h.mono (by omega)
 |true=>
  unfold Go.Proofs.Ytokeielgplbdeaa.rlx;rw[hi];cases hv:d e.2.1 with
  |none=>exact h.mono (by omega)
  |some v=>
   intro i u hu;have hu:(if i=e.1 then some (ye (w e.2.2) v)else d i)=some u:=hu;by_cases hc:i=e.1
   ·rw[if_pos hc]at hu;cases hu;have:=h _ _ hv;unfold ye;simp only[];omega
   ·rw[if_neg hc]at hu;have:=h _ _ hu;omega
theorem Bd.pass{w:Nat→Int}{sl:Bool}:∀(L:List Eg) {B:Nat} {s:Bool×pz},Bd B s.2→(∀e∈L,0≤w e.2.2∧w e.2.2≤1048576)→Bd (B+L.length) (pass w sl L s).2
 |[],B,s,h,_=>h
 |e::L,B,s,h,hw=>by
  have:=Bd.pass (sl:=sl) L (B:=B+1) (s:=xx w sl s e) (h.rlx (hw e List.mem_cons_self)) fun e' he' =>hw e' (List.mem_cons_of_mem _ he')
  rw[List.length_cons,show B+(L.length+1)=B+1+L.length by omega];exact this
theorem jfb(a:x0)(o:Option x0)(sl:Bool):gh (true,a.1,a.2,()) (nq o) sl=some (match o with|some b=>ltB sl a b|none=>true):=by
 cases o with
 |none=>rfl
 |some b=>
  show(bif !decide (a.1=b.1)then some (!(decide (a.1<b.1)==sl))else some (decide (a.2<b.2)))=some (ltB sl a b);unfold ltB;by_cases h:a.1=b.1
  ·rw[if_pos h,decide_eq_true h];rfl
  ·rw[if_neg h,decide_eq_false h];cases decide (a.1<b.1)<;>cases sl<;>rfl
def bx(q:Nat×Nat):ab:=((q.1:Int),(q.2:Int),())
def jx(p:Nat×List (Nat×Nat)):Int×List ab:=((p.1:Int),p.2.map bx)
def edA(i:Nat)(A:List (Nat×Nat)):List Eg:=A.map fun q=>(i,q.1,q.2)
def yh(es:List (Nat×List (Nat×Nat))):List Eg:=es.flatMap fun p=>edA p.1 p.2
structure GdE (N TT : Nat) (e : Eg) : Prop where
 a : e.1 < N
 b : e.2.1 < N
 t : e.2.2 < TT
structure Wt (W : Int → Option Int) (w : Nat → Int) (TT : Nat) : Prop where
 eq : ∀ t, t < TT → W (t : Int) = some (w t)
 b : ∀ t, t < TT → 0 ≤ w t ∧ w t ≤ 1048576
theorem jd5{W:Int→Option Int}{w:Nat→Int}{N TT:Nat}(hW:Wt W w TT)(sl:Bool)(i:Nat)(hi:i<N)(hN:N≤100000)(A:List (Nat×Nat))(hA:∀e∈edA i A,GdE N TT e){B:Nat}(b0:Bool){d:pz}(hd:Bd B d)(hB:B+A.length≤1000000)(v24 v25:Int)(v28:List (Int×List ab))(g30:List (Int×List ab))(g31 g32:Int):
  jat W sl (i:Int) v24 v25 v28 (A.map bx) ((A.map bx).length:Int) g30 g31 g32 (b0,0,m8 N d)=some (.inl ((pass w sl (edA i A) (b0,d)).1,m8 N (pass w sl (edA i A) (b0,d)).2)):=by
 have hlA:(A.map bx).length=A.length:=by rw[List.length_map]
 have eT:edA i A=edA i (A.take A.length):=by rw[List.take_length]
 rw[hlA];rw[eT];refine jh (fun k:Nat=>((pass w sl (edA i (A.take k)) (b0,d)).1,(k:Int),m8 N (pass w sl (edA i (A.take k)) (b0,d)).2)) A.length (bv (by omega)) _ (fun k hk=> ?_) ?_ _ (by rfl)
 ·have hBd:=Bd.pass (w:=w) (sl:=sl) (edA i (A.take k)) (s:=(b0,d)) hd fun e he=>hW.b _ (hA e (by
   unfold edA at he⊢;obtain⟨q,hq,rfl⟩:=List.mem_map.1 he;exact List.mem_map.2 ⟨q,List.mem_of_mem_take hq,rfl⟩)).t
  have hlt:(edA i (A.take k)).length=k:=by unfold edA;rw[List.length_map,List.length_take];omega
  rw[hlt]at hBd;have e1:pass w sl (edA i (A.take (k+1))) (b0,d)=xx w sl (pass w sl (edA i (A.take k)) (b0,d)) (i,(A.getD k (0,0)).1,(A.getD k (0,0)).2):=by
   rw[cq A k (0,0) hk];unfold edA;rw[List.map_append];unfold pass;rw[List.foldl_append];rfl
  have hg:(A.map bx).getD k ab.z=bx (A.getD k (0,0)):=iy _ _ _ _ _ hk;have hge:=hA (i,(A.getD k (0,0)).1,(A.getD k (0,0)).2) (List.mem_map.2 ⟨_,ba (0,0) hk,rfl⟩);rw[e1];generalize pass w sl (edA i (A.take k)) (b0,d)=s at hBd;obtain⟨b1,d1⟩:=s;generalize A.getD k (0,0)=q at hg hge;obtain⟨to,t⟩:=q;have hge1:to<N:=hge.b;have hge2:t<TT:=hge.t;have hWt:=hW.eq t hge2;have hwb:=hW.b t hge2;have hl:=y4 N d1;have h1:(m8 N d1).getD to ae.z=nq (d1 to):=vq hge1 _;have h2:(m8 N d1).getD i ae.z=nq (d1 i):=vq hi _;have hkl:k<(A.map bx).length:=by rw[hlA];exact hk
  have hm1:(bx (to,t)).1=(to:Int):=rfl;have hm2:(bx (to,t)).2.1=(t:Int):=rfl;cases hv:d1 to with
  |none=>
   obtain⟨r1,r2⟩:=qn6 (w:=w) (sl:=sl) (d:=d1) (e:=(i,to,t)) hv;have e2:xx w sl (b1,d1) (i,to,t)=(b1,d1):=by
    unfold xx;simp only[r1,r2,Bool.or_false]
   rw[e2];rw[hv]at h1;have hc:(nq none).1=false:=rfl;simp(disch:=omega)only[ql2,hg,hm1,hl,h1,hc,Bool.not_false,al,rs]
  |some v=>
   rw[hv]at h1;have hb:=hBd _ _ hv;have hc1:(nq (some v)).1=true:=rfl;have hc2:(nq (some v)).2.1=v.1:=rfl;have hc3:(nq (some v)).2.2.1=v.2:=rfl;have hls:=jfb (ye (w t) v) (d1 i) sl;unfold ye at hls;simp only[]at hls;have hi2:yi w sl d1 (i,to,t)=match d1 i with|some b=>ltB sl (v.1+w t,v.2+1) b|none=>true:=by
    unfold yi;simp only[];rw[hv];rfl
   rw[←hi2]at hls;cases hI:yi w sl d1 (i,to,t)with
   |false=>
    rw[hI]at hls;have e2:xx w sl (b1,d1) (i,to,t)=(b1,d1):=by
     unfold xx;simp only[hI,qav hI,Bool.or_false]
    rw[e2];simp(disch:=omega)only[ql2,hg,hm1,hm2,hl,h1,h2,hc1,hc2,hc3,hWt,hls,Bool.not_true,al,rs]
   |true=>
    rw[hI]at hls;have e2:xx w sl (b1,d1) (i,to,t)=(true,q5s d1 i (v.1+w t,v.2+1)):=by
     unfold xx rlx;simp only[hI,hv,Bool.or_true];rfl
    have hs:=q27 N d1 i (v.1+w t,v.2+1);simp only[]at hs;rw[e2];simp(disch:=omega)only[ql2,hg,hm1,hm2,hl,h1,h2,hc1,hc2,hc3,hWt,hls,hs,Bool.not_true,al,rs]
 ·simp(disch:=omega)only[ql2,hlA,rs]
end Go.Proofs.Ytokeielgplbdeaa
