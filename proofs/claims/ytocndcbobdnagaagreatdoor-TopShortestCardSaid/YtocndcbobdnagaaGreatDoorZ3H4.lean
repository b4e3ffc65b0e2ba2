/-
  The search for a cheapest alignment: Least is the length of a shortest run.
-/
import Derived.Test.YtocndcbobdnagaaGreatDoorZ3H3
set_option linter.all false
namespace Go.Proofs.YtocndcbobdnagaaGreatDoor
open Go.K Go.M
abbrev IS:Type:=Int×Int×List af×Int×Int×List ByteArray×Int×Int×Int×List (List Int)×List Int×List Int×List aq×List Bool×List (ByteArray×Int)×List ab
theorem SI.sub{n:bk}{m0:List Int}{L:List (List Int)}{C F:List Int}{V:List aq}{D:List Bool}{M:List (ByteArray×Int)}{q:List ab}{c B:Int}{X:Nat}{P:Nat->Nat->Prop}(hI:SI n m0 L C F V D M q c B X P){B' :Int}{X' :Nat}{Q:Nat->Nat->Prop}(hB:B<=B')(hX:X<=X')(hQ:∀i u,D.getD i false=true->u<n.2.1.length->(gg n (L.getD i []) u).1=0->Q i u->P i u):SI n m0 L C F V D M q c B' X' Q:=
 ⟨hI.lc,hI.lf,hI.lv,hI.ld,hI.nd,hI.mks,hI.mp,hI.z,hI.sd,hI.hp,hI.qi,hI.qc,hI.ge,hI.dn,fun i t h1 h2 h3 h4 h5=>hI.cl i t h1 h2 (hQ i t h2 h4 h5 h3) h4 h5,fun e he=>Ho (hI.bq e he) hB,fun i hi=>Ho (hI.bC i hi) hB,Kb hI.ln.1 hX,Kb hI.ln.2 hX⟩
section
variable {n : bk} (h : Small n) (hv : dp n = true) {m0 : List Int}
include h hv
theorem jyn(fin:List Int)(found near:Int){c B:Int}{j:Nat}{m:List Int}(hm:c6 n.1 m=true)(hB:c+1<=B)(hB1:B<=1000)(hc0:0<=c):∀(f v:Nat) (L:List (List Int)) (C F:List Int) (V:List aq) (D:List Bool) (M:List (ByteArray×Int)) (q:List ab) (X:Nat) (P:Nat->Nat->Prop),
  SI n m0 L C F V D M q c B X P->X+f<=10000->v+f=(okT n m n.2.1.length).length->j<L.length->L.getD j []=m->D.getD j false=true->C.getD j 0=c->
  ∃L' C' F' V' D' M' q',xh (fun a:IS=>yb [] 200 fin found near ((okT n m n.2.1.length).map (mvS n)) ((okT n m n.2.1.length).length:Int) n.1 n.2.1 n.2.2.1 n.2.2.2.1 1 1 1 c (j:Int) a.1 a.2.1 a.2.2.1 a.2.2.2.1 a.2.2.2.2.1 a.2.2.2.2.2.1 a.2.2.2.2.2.2.1 a.2.2.2.2.2.2.2.1 a.2.2.2.2.2.2.2.2.1 a.2.2.2.2.2.2.2.2.2.1 a.2.2.2.2.2.2.2.2.2.2.1 a.2.2.2.2.2.2.2.2.2.2.2.1 a.2.2.2.2.2.2.2.2.2.2.2.2.1 a.2.2.2.2.2.2.2.2.2.2.2.2.2.1 a.2.2.2.2.2.2.2.2.2.2.2.2.2.2.1 a.2.2.2.2.2.2.2.2.2.2.2.2.2.2.2 (fun a' =>some (.next a')) (fun e=>some (.done e)) (fun r=>some (.ret r))) (f+1)
    ((v:Int),n.1,n.2.1,n.2.2.1,n.2.2.2.1,[],1,1,1,stL L,C,F,V,D,M,q)=some (.inl (n.1,n.2.1,n.2.2.1,n.2.2.2.1,[],1,1,1,stL L',C',F',V',D',M',q'))/\
   SI n m0 L' C' F' V' D' M' q' c B (X+f) (fun i u=>P i u\/i=j/\u∈(okT n m n.2.1.length).drop v)/\(∀i,D'.getD i false=D.getD i false)/\(∀i,i<L.length->L'.getD i []=L.getD i [])/\L.length<=L'.length:=by
 have hN:=js hv;have hlT:=jcf n m n.2.1.length;have hlm:((okT n m n.2.1.length).map (mvS n)).length=(okT n m n.2.1.length).length:=Ww _;intro f
 induction f with
 |zero=>
  intro v L C F V D M q X P hI hX hvf hj hm hD hC;refine⟨L,C,F,V,D,M,q,?_,hI.sub (Kc _) (Wg _) fun i u _ _ _ hq=> ?_,fun _=>rfl,fun _ _=>rfl,Wg _⟩
  ·rw[ce];simp(disch:=omega)only[yb,rs];rfl
  ·rcases hq with hq|⟨_,hq⟩
   ·exact hq
   ·rw[List.drop_eq_nil_of_le (by omega)]at hq;cases hq
 |succ f ih=>
  intro v L C F V D M q X P hI hX hvf hj hLm hD hC;have hvl:v<(okT n m n.2.1.length).length:=by omega
  have hdr:=qyf (okT n m n.2.1.length) v 0 hvl;have hmem:=jtb.1 (ay 0 hvl);have hget:((okT n m n.2.1.length).map (mvS n)).getD v aq.z=mvS n ((okT n m n.2.1.length).getD v 0):=la _ _ _ _ _ hvl;generalize hok:(okT n m n.2.1.length).getD v 0=t at hdr hmem hget;have hA:qaq (n.1,n.2.1,n.2.2.1,n.2.2.2.1,()) [] (0::m) (mvS n t)=some (0::(gg n m t).2,0):=jwu h hv hm hmem.1 hmem.2;have hK:yi (1,1,1,()) [mvS n t]=some (1,0):=jrz (l:=[mvS n t]) (fun x hx=>by rw[Wm.1 hx];exact(jqv n t).kind) (by simp);have hst:=jrn hj;rw[hLm]at hst;have hls:(stL L).length=L.length:=Ww _;obtain⟨k,b,L1,C1,F1,V1,D1,M1,q1,e1,e2,e3,e4,e5,e6,e7⟩:=jvq h hv hI hB (by omega) hj hD hC hmem.1 (by rw[hLm];exact hmem.2) (mvS n t);rw[hLm]at e1;obtain⟨L2,C2,F2,V2,D2,M2,q2,g1,g2,g3,g4,g5⟩:=ih (v+1) L1 C1 F1 V1 D1 M1 q1 (X+1) _ e3 (by omega) (by omega) (by omega) (by rw[e5 j hj];exact hLm) (by rw[e4];exact hD) e7;refine⟨L2,C2,F2,V2,D2,M2,q2,?_,g2.sub (Kc _) (by omega) fun i u _ _ _ hq=> ?_,fun i=>(g3 i).trans (e4 i),fun i hi=>(g4 i (by omega)).trans (e5 i hi),by omega⟩
  ·rw[ce,<-g1];cases b with
   |true=>
    have e2:d6 (c+1) k q=some q1:=e2;simp(disch:=omega)only[yb,hlm,hls,hst,hget,hA,hK,e1,e2,Wv,am,rs];rfl
   |false=>
    obtain rfl:q=q1:=Kp e2;simp(disch:=omega)only[yb,hlm,hls,hst,hget,hA,hK,e1,Wv,am,rs];rfl
  ·rcases hq with hq|⟨hq,hu⟩
   ·exact .inl (.inl hq)
   ·rw[hdr]at hu;rcases Wr.1 hu with hu|hu
    ·exact .inl (.inr ⟨hq,hu⟩)
    ·exact .inr ⟨hq,hu⟩
end
end Go.Proofs.YtocndcbobdnagaaGreatDoor
