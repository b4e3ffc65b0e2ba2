/-
  Predict: best returns what is best over all walks.
-/
import Derived.Test.YtokeielgplbdeaaZ4D2
set_option linter.all false
namespace Go.Proofs.Ytokeielgplbdeaa
open Go.K Go.M
def nu(o:Option wi):ae:=match o with|some v=>(true,v.1,v.2,())|none=>(false,0,0,())
def nh(N:Nat)(d:pp):List ae:=ca N fun i=>nu (d i)
theorem za(N:Nat)(d:pp):(nh N d).length=N:=qpo _ _
theorem v6{N:Nat}{d:pp}{i:Nat}(h:i<N)(z:ae):(nh N d).getD i z=nu (d i):=qsh h
theorem qyr(N:Nat)(d:pp)(i:Nat)(v:wi):(nh N d).set i (true,v.1,v.2,())=nh N (q05 d i v):=by
 unfold nh;rw[qpp];refine yw fun j _=> ?_
 unfold q05;by_cases h:j=i
 ·rw[if_pos h,if_pos h];rfl
 ·rw[if_neg h,if_neg h]
def Bd(B:Nat)(d:pp):Prop:=∀i v,d i=some v→0≤v.1∧v.1≤1048576*v.2∧0≤v.2∧v.2≤(B:Int)
theorem Bd.mono{B B' :Nat}{d:pp}(h:Bd B d)(hB:B≤B'):Bd B' d:=fun i v hv=>by have:=h i v hv;omega
theorem Bd.rlx{B:Nat}{d:pp}(h:Bd B d){w:Nat→Int}{sl:Bool}{e:Eg}(hw:0≤w e.2.2∧w e.2.2≤1048576):Bd (B+1) (rlx w sl d e):=by
 cases hi:yl w sl d e with
 |false=>rw[qap hi];exact h.mono (by omega)
 |true=>
  unfold Go.Proofs.Ytokeielgplbdeaa.rlx;rw[hi];cases hv:d e.2.1 with
  |none=>exact h.mono (by omega)
  |some v=>
   intro i u hu;have hu:(if i=e.1 then some (yh (w e.2.2) v)else d i)=some u:=hu;by_cases hc:i=e.1
   ·rw[if_pos hc]at hu;cases hu;have:=h _ _ hv;unfold yh;simp only[];omega
   ·rw[if_neg hc]at hu;have:=h _ _ hu;omega
theorem Bd.pass{w:Nat→Int}{sl:Bool}:∀(L:List Eg) {B:Nat} {s:Bool×pp},Bd B s.2→(∀e∈L,0≤w e.2.2∧w e.2.2≤1048576)→Bd (B+L.length) (pass w sl L s).2
 |[],B,s,h,_=>h
 |e::L,B,s,h,hw=>by
  have:=Bd.pass (sl:=sl) L (B:=B+1) (s:=x5 w sl s e) (h.rlx (hw e List.mem_cons_self)) fun e' he' =>hw e' (List.mem_cons_of_mem _ he')
  rw[List.length_cons,show B+(L.length+1)=B+1+L.length by omega];exact this
theorem jar(a:wi)(o:Option wi)(sl:Bool):je (true,a.1,a.2,()) (nu o) sl=some (match o with|some b=>ltB sl a b|none=>true):=by
 cases o with
 |none=>rfl
 |some b=>
  show(bif !decide (a.1=b.1)then some (!(decide (a.1<b.1)==sl))else some (decide (a.2<b.2)))=some (ltB sl a b);unfold ltB;by_cases h:a.1=b.1
  ·rw[if_pos h,decide_eq_true h];rfl
  ·rw[if_neg h,decide_eq_false h];cases decide (a.1<b.1)<;>cases sl<;>rfl
def bw(q:Nat×Nat):ab:=((q.1:Int),(q.2:Int),())
def j6(p:Nat×List (Nat×Nat)):Int×List ab:=((p.1:Int),p.2.map bw)
def edA(i:Nat)(A:List (Nat×Nat)):List Eg:=A.map fun q=>(i,q.1,q.2)
def yk(es:List (Nat×List (Nat×Nat))):List Eg:=es.flatMap fun p=>edA p.1 p.2
structure GdE (N TT : Nat) (e : Eg) : Prop where
 a : e.1 < N
 b : e.2.1 < N
 t : e.2.2 < TT
structure Wt (W : Int → Option Int) (w : Nat → Int) (TT : Nat) : Prop where
 eq : ∀ t, t < TT → W (t : Int) = some (w t)
 b : ∀ t, t < TT → 0 ≤ w t ∧ w t ≤ 1048576
theorem q9m{W:Int→Option Int}{w:Nat→Int}{N TT:Nat}(hW:Wt W w TT)(sl:Bool)(i:Nat)(hi:i<N)(hN:N≤100000)(A:List (Nat×Nat))(hA:∀e∈edA i A,GdE N TT e){B:Nat}(b0:Bool){d:pp}(hd:Bd B d)(hB:B+A.length≤1000000)(v24 v25:Int)(v28:List (Int×List ab))(g30:List (Int×List ab))(g31 g32:Int):
  q58 W sl (i:Int) v24 v25 v28 (A.map bw) ((A.map bw).length:Int) g30 g31 g32 (b0,0,nh N d)=some (.inl ((pass w sl (edA i A) (b0,d)).1,nh N (pass w sl (edA i A) (b0,d)).2)):=by
 have hlA:(A.map bw).length=A.length:=by rw[List.length_map]
 have eT:edA i A=edA i (A.take A.length):=by rw[List.take_length]
 rw[hlA];rw[eT];refine iz (fun k:Nat=>((pass w sl (edA i (A.take k)) (b0,d)).1,(k:Int),nh N (pass w sl (edA i (A.take k)) (b0,d)).2)) A.length (bh (by omega)) _ (fun k hk=> ?_) ?_ _ (by rfl)
 ·have hBd:=Bd.pass (w:=w) (sl:=sl) (edA i (A.take k)) (s:=(b0,d)) hd fun e he=>hW.b _ (hA e (by
   unfold edA at he⊢;obtain⟨q,hq,rfl⟩:=List.mem_map.1 he;exact List.mem_map.2 ⟨q,List.mem_of_mem_take hq,rfl⟩)).t
  have hlt:(edA i (A.take k)).length=k:=by unfold edA;rw[List.length_map,List.length_take];omega
  rw[hlt]at hBd;have e1:pass w sl (edA i (A.take (k+1))) (b0,d)=x5 w sl (pass w sl (edA i (A.take k)) (b0,d)) (i,(A.getD k (0,0)).1,(A.getD k (0,0)).2):=by
   rw[cb A k (0,0) hk];unfold edA;rw[List.map_append];unfold pass;rw[List.foldl_append];rfl
  have hg:(A.map bw).getD k ab.z=bw (A.getD k (0,0)):=gv _ _ _ _ _ hk;have hge:=hA (i,(A.getD k (0,0)).1,(A.getD k (0,0)).2) (List.mem_map.2 ⟨_,aw (0,0) hk,rfl⟩);rw[e1];generalize pass w sl (edA i (A.take k)) (b0,d)=s at hBd;obtain⟨b1,d1⟩:=s;generalize A.getD k (0,0)=q at hg hge;obtain⟨to,t⟩:=q;have hge1:to<N:=hge.b;have hge2:t<TT:=hge.t;have hWt:=hW.eq t hge2;have hwb:=hW.b t hge2;have hl:=za N d1;have h1:(nh N d1).getD to ae.z=nu (d1 to):=v6 hge1 _;have h2:(nh N d1).getD i ae.z=nu (d1 i):=v6 hi _;have hkl:k<(A.map bw).length:=by rw[hlA];exact hk
  have hm1:(bw (to,t)).1=(to:Int):=rfl;have hm2:(bw (to,t)).2.1=(t:Int):=rfl;cases hv:d1 to with
  |none=>
   obtain⟨r1,r2⟩:=qlz (w:=w) (sl:=sl) (d:=d1) (e:=(i,to,t)) hv;have e2:x5 w sl (b1,d1) (i,to,t)=(b1,d1):=by
    unfold x5;simp only[r1,r2,Bool.or_false]
   rw[e2];rw[hv]at h1;have hc:(nu none).1=false:=rfl;simp(disch:=omega)only[qkc,hg,hm1,hl,h1,hc,Bool.not_false,aj,rs]
  |some v=>
   rw[hv]at h1;have hb:=hBd _ _ hv;have hc1:(nu (some v)).1=true:=rfl;have hc2:(nu (some v)).2.1=v.1:=rfl;have hc3:(nu (some v)).2.2.1=v.2:=rfl;have hls:=jar (yh (w t) v) (d1 i) sl;unfold yh at hls;simp only[]at hls;have hi2:yl w sl d1 (i,to,t)=match d1 i with|some b=>ltB sl (v.1+w t,v.2+1) b|none=>true:=by
    unfold yl;simp only[];rw[hv];rfl
   rw[←hi2]at hls;cases hI:yl w sl d1 (i,to,t)with
   |false=>
    rw[hI]at hls;have e2:x5 w sl (b1,d1) (i,to,t)=(b1,d1):=by
     unfold x5;simp only[hI,qap hI,Bool.or_false]
    rw[e2];simp(disch:=omega)only[qkc,hg,hm1,hm2,hl,h1,h2,hc1,hc2,hc3,hWt,hls,Bool.not_true,aj,rs]
   |true=>
    rw[hI]at hls;have e2:x5 w sl (b1,d1) (i,to,t)=(true,q05 d1 i (v.1+w t,v.2+1)):=by
     unfold x5 rlx;simp only[hI,hv,Bool.or_true];rfl
    have hs:=qyr N d1 i (v.1+w t,v.2+1);simp only[]at hs;rw[e2];simp(disch:=omega)only[qkc,hg,hm1,hm2,hl,h1,h2,hc1,hc2,hc3,hWt,hls,hs,Bool.not_true,aj,rs]
 ·simp(disch:=omega)only[qkc,hlA,rs]
end Go.Proofs.Ytokeielgplbdeaa
