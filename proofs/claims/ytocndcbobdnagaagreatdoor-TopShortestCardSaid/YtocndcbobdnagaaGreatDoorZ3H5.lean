/-
  The search for a cheapest alignment: Least is the length of a shortest run.
-/
import Derived.Test.YtocndcbobdnagaaGreatDoorZ3H4
set_option linter.all false
namespace Go.Proofs.YtocndcbobdnagaaGreatDoor
open Go.K Go.M
section
variable {n : bk} (h : Small n) (hv : dp n = true) {m0 : List Int} {L : List (List Int)} {C F : List Int} {V : List aq} {D : List Bool} {M : List (ByteArray × Int)} {q q' : List ab} {c B : Int} {X j : Nat} {P : Nat -> Nat -> Prop} {x : ab}
include h hv
theorem za9(fin:List Int)(found near:Int)(hB:c+1<=B)(hB1:B<=1000)(hc0:0<=c)(hX:X<=9000)(hT:n.2.1.length<=14)(hI:SI n m0 L C F V D M q c B X fun i _=>i≠j)(hj:j<L.length)(hD:D.getD j false=true)(hC:C.getD j 0=c):
  ∃L' C' F' V' D' M' q',qmg [] 200 fin found near n.1 n.2.1 n.2.2.1 n.2.2.2.1 1 1 1 n.1 n.2.1 n.2.2.1 n.2.2.2.1 [] 1 1 1 c (j:Int) (stL L) C F V D M q=some (.inl (n.1,n.2.1,n.2.2.1,n.2.2.2.1,[],1,1,1,stL L',C',F',V',D',M',q'))/\
   SI n m0 L' C' F' V' D' M' q' c B (X+14) (fun _ _=>True)/\(∀i,D'.getD i false=D.getD i false)/\(∀i,i<L.length->L'.getD i []=L.getD i [])/\L.length<=L'.length:=by
 have hlT:=jcf n (L.getD j []) n.2.1.length;have hm:=hI.mks _ (ay [] hj);obtain⟨L',C',F',V',D',M',q',e1,e2,e3,e4,e5⟩:=jyn h hv fin found near hm hB hB1 hc0 _ 0 L C F V D M q X _ hI (by omega) (WR _) hj rfl hD hC;refine⟨L',C',F',V',D',M',q',?_,e2.sub (Kc _) (by omega) fun i u hd hu hok _=> ?_,e3,e4,e5⟩
 ·have hM:qas (n.1,n.2.1,n.2.2.1,n.2.2.2.1,()) [] (0::L.getD j [])=_:=jw2 h hv hm;have hst:=jrn hj;have hls:(stL L).length=L.length:=Ww _;have hlm:((okT n (L.getD j []) n.2.1.length).map (mvS n)).length=(okT n (L.getD j []) n.2.1.length).length:=Ww _;have hL:q9b [] 200 fin found near ((okT n (L.getD j []) n.2.1.length).map (mvS n)) ((okT n (L.getD j []) n.2.1.length).length:Int) n.1 n.2.1 n.2.2.1 n.2.2.2.1 1 1 1 c (j:Int) (0,n.1,n.2.1,n.2.2.1,n.2.2.2.1,[],1,1,1,stL L,C,F,V,D,M,q)=some (.inl (n.1,n.2.1,n.2.2.1,n.2.2.2.1,[],1,1,1,stL L',C',F',V',D',M',q')):=t8 e1 (bm (by omega));unfold qmg qqx;simp(disch:=omega)only[hls,hst,hM,hlm,hL,rs]
 ·by_cases hij:i=j
  ·refine .inr ⟨hij,?_⟩;rw[K3];rw[hij,e4 j hj]at hok;exact jtb.2 ⟨hu,hok⟩
  ·exact .inl hij
end
section
variable {n : bk} {m0 fin : List Int} {L : List (List Int)} {C F : List Int} {V : List aq} {D : List Bool} {M : List (ByteArray × Int)} {q q' : List ab} {c B : Int} {X j : Nat} {x : ab}
theorem SI.skip{P:Nat->Nat->Prop}(hI:SI n m0 L C F V D M q c B X P)(hp:q.Perm (x::q'))(hq:HP q' q'.length)(hx:x.2.1=(j:Int))(hD:D.getD j false=true):SI n m0 L C F V D M q' c B X P:=by
 have hs:∀e∈q',e∈q:=fun e he=>hp.mem_iff.2 (We _ he)
 have hl:=hp.length_eq;rw[WA]at hl;refine⟨hI.lc,hI.lf,hI.lv,hI.ld,hI.nd,hI.mks,hI.mp,hI.z,hI.sd,hq,fun e he=>hI.qi e (hs e he),fun i hi hd=> ?_,fun e he=>hI.ge e (hs e he),hI.dn,hI.cl,fun e he=>hI.bq e (hs e he),hI.bC,hI.ln.1,by have:=hI.ln.2;omega⟩;rcases Wr.1 (hp.mem_iff.1 (hI.qc i hi hd))with e|e
 ·have h1:(i:Int)=(j:Int):=by rw[<-hx,<-e]
  obtain rfl:i=j:=by omega
  rw[hd]at hD;cases hD
 ·exact e
theorem SI.mark(hI:SI n m0 L C F V D M q c B X fun _ _=>True)(hp:q.Perm (x::q'))(hq:HP q' q'.length)(hmin:∀e∈q,x.1<=e.1)(hx:x.2.1=(j:Int))(hj:j<L.length)(hD:D.getD j false=false):C.getD j 0=x.1/\SI n m0 L C F V (D.set j true) M q' x.1 B X fun i _=>i≠j:=by
 have hs:∀e∈q',e∈q:=fun e he=>hp.mem_iff.2 (We _ he)
 have hxq:x∈q:=hp.mem_iff.2 Wf;have hl:=hp.length_eq;rw[WA]at hl;have gD:∀i,(D.set j true).getD i false=if i=j then true else D.getD i false:=fun i=>j2g D i _ _ (by rw[hI.ld];exact hj)
 have hCj:C.getD j 0=x.1:=by
  obtain⟨i,h1,h2,h3⟩:=hI.qi x hxq;obtain rfl:i=j:=by omega
  have:=hmin _ (hI.qc i hj hD);simp only[]at this;omega
 refine⟨hCj,hI.lc,hI.lf,hI.lv,by rw[WB];exact hI.ld,hI.nd,hI.mks,hI.mp,hI.z,hI.sd,hq,fun e he=>hI.qi e (hs e he),fun i hi hd=> ?_,fun e he=>hmin e (hs e he),fun i hi hd=> ?_,fun i t hi hd hp ht hok=> ?_,fun e he=>hI.bq e (hs e he),hI.bC,hI.ln.1,by have:=hI.ln.2;omega⟩
 ·rw[gD]at hd;by_cases e:i=j
  ·rw[if_pos e]at hd;cases hd
  ·rw[if_neg e]at hd;rcases Wr.1 (hp.mem_iff.1 (hI.qc i hi hd))with e2|e2
   ·have h1:(i:Int)=(j:Int):=by rw[<-hx,<-e2]
    exact absurd (show i=j by omega) e
   ·exact e2
 ·rw[gD]at hd;by_cases e:i=j
  ·rw[e,hCj];exact Kc _
  ·rw[if_neg e]at hd;exact Ho (hI.dn i hi hd) (hI.ge x hxq)
 ·rw[gD,if_neg hp]at hd;exact hI.cl i t hi hd trivial ht hok
theorem Rn.unsnoc{t:Nat}:∀{l:List Nat} {a b:List Int},Rn n (l++[t]) a b->∃y,Rn n l a y/\t<n.2.1.length/\(gg n y t).1=0/\b=(gg n y t).2
 |[],a,b,⟨h1,h2,h3⟩=>⟨a,rfl,h1,h2,h3.symm⟩
 |u::l,a,b,⟨h1,h2,h3⟩=>by
  obtain⟨y,g1,g2⟩:=Rn.unsnoc h3;exact⟨y,⟨h1,h2,g1⟩,g2⟩
theorem jot(hI:SI n m0 L C F V D M q c B X fun _ _=>True)(l:List Nat):∀y,Rn n l m0 y->(∃i,i<L.length/\D.getD i false=true/\L.getD i []=y/\C.getD i 0<=(l.length:Int))\/∃e∈q,e.1<=(l.length:Int):=by
 have fin:∀i (k:Int),i<L.length->C.getD i 0<=k->(D.getD i false=true/\C.getD i 0<=k)\/∃e∈q,e.1<=k:=fun i k hi hk=>by
  cases hd:D.getD i false with
  |true=>exact .inl ⟨rfl,hk⟩
  |false=>exact .inr ⟨_,hI.qc i hi hd,hk⟩
 induction l using jfs with
 |h0=>
  intro y hy;obtain rfl:m0=y:=hy;rcases fin 0 0 hI.z.1 hI.z.2.2 with⟨h1,h2⟩|h1
  ·exact .inl ⟨0,hI.z.1,h1,hI.z.2.1,h2⟩
  ·exact .inr h1
 |h1 l t ih=>
  intro y hy;have hl:((l++[t]).length:Int)=(l.length:Int)+1:=by rw[Wx,Ks];omega
  obtain⟨y',g1,g2,g3,rfl⟩:=hy.unsnoc;rw[hl];rcases ih y' g1 with⟨i,hi,hd,rfl,hc⟩|⟨e,he,hc⟩
  ·obtain⟨k,k1,k2,k3⟩:=hI.cl i t hi hd trivial g2 g3;rcases fin k ((l.length:Int)+1) k1 (by omega)with⟨h1,h2⟩|h1
   ·exact .inl ⟨k,k1,h1,k2,h2⟩
   ·exact .inr h1
  ·exact .inr ⟨e,he,by omega⟩
def jwz(n:bk)(m0 fin:List Int)(found:Int)(C:List Int):Prop:=(found= -1/\∀l,¬Rn n l m0 fin)\/∃k:Nat,found=(k:Int)/\k<C.length/\∃l,Rn n l m0 fin/\C.getD k 0=(l.length:Int)/\∀l',Rn n l' m0 fin->l.length<=l'.length
def FI(fin:List Int)(L:List (List Int))(D:List Bool)(found:Int):Prop:=(found= -1/\∀i,i<L.length->D.getD i false=true->L.getD i []≠fin)\/∃k:Nat,found=(k:Int)/\k<L.length/\D.getD k false=true/\L.getD k []=fin
theorem jnl(hI:SI n m0 L C F V D M q c B X fun _ _=>True){found:Int}(hF:FI fin L D found)(hq:∀e∈q,0<=found/\C.getD found.toNat 0<e.1):jwz n m0 fin found C:=by
 rcases hF with⟨rfl,hF⟩|⟨k,rfl,hk,hd,hs⟩
 ·refine .inl ⟨rfl,fun l hl=> ?_⟩;rcases jot hI l _ hl with⟨i,h1,h2,h3,_⟩|⟨e,he,_⟩
  ·exact hF i h1 h2 h3
  ·have:=(hq e he).1;omega
 ·obtain⟨l,l1,l2⟩:=hI.sd k hk;rw[hs]at l1;refine .inr ⟨k,rfl,by rw[hI.lc];exact hk,l,l1,l2,fun l' hl' => ?_⟩;rcases jot hI l' _ hl' with⟨i,h1,h2,h3,h4⟩|⟨e,he,h4⟩
  ·have e:L.getD i []=L.getD k []:=h3.trans hs.symm;rw[jo _ _ _ h1,jo _ _ _ hk]at e;obtain rfl:=(List.getElem_inj hI.nd).1 e;omega
  ·have:=(hq e he).2;rw[WN]at this;omega
end
theorem zba{n:bk}(h:Small n)(hv:dp n=true)(hT:n.2.1.length<=14){m0 fin:List Int}(hfm:c6 n.1 fin=true){L:List (List Int)}{C F:List Int}{V:List aq}{D:List Bool}{M:List (ByteArray×Int)}{q:List ab}{c found:Int}{a j:Nat}(ha:a<=200)(hI:SI n m0 L C F V (D.set j true) M q c (a:Int) (1+14*a) fun i _=>i≠j)(hj:j<L.length)(hC:C.getD j 0=c)(hF:FI fin L D found):
  xf [] 200 (0::fin) found (a:Int) n.1 n.2.1 n.2.2.1 n.2.2.2.1 1 1 1 n.1 n.2.1 n.2.2.1 n.2.2.2.1 [] 1 1 1 c (j:Int) (stL L) C F V D M q=some (.inr (.inr (0,13)))\/
  ∃(found' :Int) (L' :List (List Int)) (C' F' :List Int) (V' :List aq) (D' :List Bool) (M' :List (ByteArray×Int)) (q' :List ab),xf [] 200 (0::fin) found (a:Int) n.1 n.2.1 n.2.2.1 n.2.2.2.1 1 1 1 n.1 n.2.1 n.2.2.1 n.2.2.2.1 [] 1 1 1 c (j:Int) (stL L) C F V D M q=some (.inl (found',((a+1:Nat):Int),n.1,n.2.1,n.2.2.1,n.2.2.2.1,[],1,1,1,stL L',C',F',V',D',M',q'))/\a+1<=200/\SI n m0 L' C' F' V' D' M' q' c ((a+1:Nat):Int) (1+14*(a+1)) (fun _ _=>True)/\FI fin L' D' found' :=by
 have hls:(stL L).length=L.length:=Ww _;have hld:D.length=L.length:=by have:=hI.ld;rw[WB]at this;exact this
 have hst:=jrn hj;have hN:=js hv;have hml:=(ez.1 (hI.mks _ (ay [] hj))).1;have hE:=jcp (0::L.getD j []) (0::fin) (by rw[WA];omega);have hDj:(D.set j true).getD j false=true:=by rw[j2g D j _ _ (by omega),if_pos rfl]
 have hc0:0<=c:=by
  obtain⟨l,_,l2⟩:=hI.sd j hj;omega
 have hca:=hI.bC j hj;by_cases h2:a=200
 ·subst h2;refine .inl ?_;unfold xf qc1;simp(disch:=omega)only[hls,hld,hst,rs]
 ·refine .inr ?_;have hI1:=hI.sub (B' :=((a+1:Nat):Int)) (X' :=1+14*a) (Q:=fun i _=>i≠j) (by omega) (Wg _) (fun _ _ _ _ _ h=>h);have go:=fun f=>za9 h hv (0::fin) f ((a+1:Nat):Int) (by omega) (by omega) hc0 (by omega) hT hI1 hj hDj hC
  by_cases he:L.getD j []=fin
  ·rw[he,Ws rfl]at hE;rw[he]at hst;obtain⟨L',C',F',V',D',M',q',e1,e2,e3,e4,e5⟩:=go (j:Int);refine⟨(j:Int),L',C',F',V',D',M',q',?_,by omega,e2.sub (Kc _) (by omega) (fun _ _ _ _ _ _=>trivial), .inr ⟨j,rfl,by omega,by rw[e3];exact hDj,by rw[e4 j hj];exact he⟩⟩;unfold xf qc1;simp(disch:=omega)only[hls,hld,hst,hE,am,e1,rs]
  ·rw[WD (fun e=>he (HB e).2)]at hE;obtain⟨L',C',F',V',D',M',q',e1,e2,e3,e4,e5⟩:=go found;have gD:∀i,D'.getD i false=if i=j then true else D.getD i false:=fun i=>(e3 i).trans (j2g D i _ _ (by omega))
   refine⟨found,L',C',F',V',D',M',q',?_,by omega,e2.sub (Kc _) (by omega) (fun _ _ _ _ _ _=>trivial),?_⟩
   ·unfold xf qc1;simp(disch:=omega)only[hls,hld,hst,hE,am,e1,rs]
   ·rcases hF with⟨hf,hF⟩|⟨k,hf,hk,hd,hs⟩
    ·refine .inl ⟨hf,fun i _ hd=> ?_⟩;rw[gD]at hd;by_cases e:i=j
     ·rw[e,e4 j hj];exact he
     ·rw[if_neg e]at hd;have hi:i<L.length:=KZ fun hn=>by
       rw[Wa,Wp (by omega)]at hd;cases hd
      rw[e4 i hi];exact hF i hi hd
    ·refine .inr ⟨k,hf,by omega,?_,by rw[e4 k hk];exact hs⟩;rw[gD];split
     ·rfl
     ·exact hd
theorem SI.init{n:bk}{m0:List Int}(hm:c6 n.1 m0=true):SI n m0 [m0] [0] [-1] [(0,0,⟨#[]⟩,())] [false] [(kA m0,0)] [(0,0,())] 0 0 1 fun _ _=>True:=by
 have one:∀{i:Nat},i<[m0].length->i=0:=fun{i} hi=>Nat.lt_one_iff.1 hi
 have e1:∀{e:ab},e∈[((0,0,()):ab)]->e=(0,0,()):=Wm.1;refine⟨rfl,rfl,rfl,rfl,KR _ _,fun x hx=>by rw[Wm.1 hx];exact hm,fun x hx=> ?_,⟨Nat.one_pos,rfl,Kc _⟩,fun i hi=>⟨[],?_⟩,fun i h1 h2=>absurd (show i<1 from h2) (by omega),fun e he=> ?_,fun i hi _=> ?_,fun e he=> ?_,fun i hi hd=> ?_,fun i t hi hd=> ?_,fun e he=> ?_,fun i hi=> ?_,⟨Wg _,Wg _⟩⟩
 ·rw[show [(kA m0,(0:Int))]=qdf .str (kA m0) (0:Int) ([]:List (ByteArray×Int))from rfl,qyk];by_cases e:x=m0
  ·rw[e,qse];show _=Option.map _ (bif decide (m0=m0)then some 0 else none);rw[Ws rfl];rfl
  ·have hne:qay (kA x) (kA m0)=false:=by
    cases hs:qay (kA x) (kA m0)with
    |false=>rfl
    |true=>exact absurd (jyt hx hm (q6a hs)) e
   rw[hne];show _=Option.map _ (bif decide (m0=x)then some 0 else Option.map _ none);rw[WD (Ko e)];rfl
 ·rw[one hi];exact⟨rfl,rfl⟩
 ·rw[e1 he];exact⟨0,rfl,Nat.one_pos,Kc _⟩
 ·rw[one hi];exact Wf
 ·rw[e1 he];exact Kc _
 ·rw[one hi];exact Kc _
 ·rw[one hi]at hd;cases hd
 ·rw[e1 he];exact Kc _
 ·rw[one hi];exact Kc _
abbrev QS:Type:=Int×Int×Int×List af×Int×Int×List ByteArray×Int×Int×Int×List (List Int)×List Int×List Int×List aq×List Bool×List (ByteArray×Int)×List ab
abbrev rS(n:bk)(L:List (List Int))(C F:List Int)(V:List aq)(D:List Bool)(M:List (ByteArray×Int)):Int×List af×Int×Int×List ByteArray×Int×Int×Int×List (List Int)×List Int×List Int×List aq×List Bool×List (ByteArray×Int):=(n.1,n.2.1,n.2.2.1,n.2.2.2.1,[],1,1,1,stL L,C,F,V,D,M)
section
variable {n : bk} (h : Small n) (hv : dp n = true) (hT : n.2.1.length <= 14) {m0 fin : List Int} (hfm : c6 n.1 fin = true)
include h hv hT hfm
theorem jz1(s:QS)(hs:∃L C F V D M q c,s=(-1,0,n.1,n.2.1,n.2.2.1,n.2.2.2.1,[],1,1,1,stL L,C,F,V,D,M,q)/\SI n m0 L C F V D M q c 0 1 (fun _ _=>True)/\∀i,D.getD i false=false):
  ∃o,qu9 [] 200 (0::fin) n.1 n.2.1 n.2.2.1 n.2.2.2.1 1 1 1 s=some o/\((∃found L C F V D M,o= .inl (found,rS n L C F V D M)/\jwz n m0 fin found C)\/o= .inr (.inr (0,13))):=by
 have hN:=js hv;have hfl:=(ez.1 hfm).1;obtain⟨o,h1,h2⟩:=qdc (step:=fun a:QS=>mq [] 200 (0::fin) n.1 n.2.1 n.2.2.1 n.2.2.2.1 1 1 1 a.1 a.2.1 a.2.2.1 a.2.2.2.1 a.2.2.2.2.1 a.2.2.2.2.2.1 a.2.2.2.2.2.2.1 a.2.2.2.2.2.2.2.1 a.2.2.2.2.2.2.2.2.1 a.2.2.2.2.2.2.2.2.2.1 a.2.2.2.2.2.2.2.2.2.2.1 a.2.2.2.2.2.2.2.2.2.2.2.1 a.2.2.2.2.2.2.2.2.2.2.2.2.1 a.2.2.2.2.2.2.2.2.2.2.2.2.2.1 a.2.2.2.2.2.2.2.2.2.2.2.2.2.2.1 a.2.2.2.2.2.2.2.2.2.2.2.2.2.2.2.1 a.2.2.2.2.2.2.2.2.2.2.2.2.2.2.2.2 (fun a' =>some (.next a')) (fun e=>some (.done e)) (fun r=>some (.ret r)))
  (fun s=>∃(found:Int) (a:Nat) (L:List (List Int)) (C F:List Int) (V:List aq) (D:List Bool) (M:List (ByteArray×Int)) (q:List ab) (c:Int),s=(found,(a:Int),n.1,n.2.1,n.2.2.1,n.2.2.2.1,[],1,1,1,stL L,C,F,V,D,M,q)/\a<=200/\SI n m0 L C F V D M q c (a:Int) (1+14*a) (fun _ _=>True)/\FI fin L D found)
  (fun s=>s.2.2.2.2.2.2.2.2.2.2.2.2.2.2.2.2.length+3000*(201-s.2.1.toNat))
  (fun o=>(∃found L C F V D M,o= .inl (found,rS n L C F V D M)/\jwz n m0 fin found C)\/o= .inr (.inr (0,13))) s
  (by
   obtain⟨L,C,F,V,D,M,q,c,e,hI,hD⟩:=hs;exact⟨-1,0,L,C,F,V,D,M,q,c,e,by omega,hI, .inl ⟨rfl,fun i _ hd=>by rw[hD]at hd;cases hd⟩⟩)
  (by
   obtain⟨L,C,F,V,D,M,q,c,e,hI,hD⟩:=hs;have:=hI.ln.2;rw[e];refine bm ?_;show q.length+3000*(201-0)<=_;omega)
  fun s hs=>by
   obtain⟨found,a,L,C,F,V,D,M,q,c,rfl,ha,hI,hF⟩:=hs;have hls:(stL L).length=L.length:=Ww _;have hld:=hI.ld;have hlc:=hI.lc;have hln:=hI.ln;by_cases h0:0<q.length
   ·obtain⟨q',p1,p2,p3⟩:=j62 h0 (by omega) hI.hp;have hmin:∀e∈q,(q.getD 0 ab.z).1<=e.1:=fun e he=>by
     obtain⟨i,hi,rfl⟩:=kq ab.z he;exact hI.hp.min i hi
    have hxq:=ay ab.z h0;have hpl:=p3.length_eq;rw[WA]at hpl;generalize q.getD 0 ab.z=x at p1 p3 hmin hxq;obtain⟨j,hj1,hj2,hj3⟩:=hI.qi x hxq;cases hd:D.getD j false with
    |true=>
     refine⟨.next (found,(a:Int),n.1,n.2.1,n.2.2.1,n.2.2.2.1,[],1,1,1,stL L,C,F,V,D,M,q'),?_,⟨found,a,L,C,F,V,D,M,q',c,rfl,ha,hI.skip p3 p2 hj1 hd,hF⟩,?_⟩
     ·unfold mq ea;simp(disch:=omega)only[p1,hj1,hd,rs]
     ·show q'.length+3000*(201-a)<q.length+3000*(201-a);omega
    |false=>
     obtain⟨hCx,hI'⟩:=hI.mark p3 p2 hmin hj1 hj2 hd;have hx0:0<=x.1:=by
      obtain⟨l,_,l2⟩:=hI.sd j hj2;omega
     have hxa:=hI.bq x hxq;have hq' :=hI'.ln.2;have go:(found<0\/∃k:Nat,found=(k:Int)/\k<L.length/\¬C.getD k 0<x.1)->∃y,mq [] 200 (0::fin) n.1 n.2.1 n.2.2.1 n.2.2.2.1 1 1 1 found (a:Int) n.1 n.2.1 n.2.2.1 n.2.2.2.1 [] 1 1 1 (stL L) C F V D M q (fun a' :QS=>some (LR.next a')) (fun e=>some (LR.done e)) (fun r=>some (LR.ret r))=some y/\((∃(found:Int) (L:List (List Int)) (C F:List Int) (V:List aq) (D:List Bool) (M:List (ByteArray×Int)) (q:List ab),y= .next (found,((a+1:Nat):Int),n.1,n.2.1,n.2.2.1,n.2.2.2.1,[],1,1,1,stL L,C,F,V,D,M,q)/\a+1<=200/\SI n m0 L C F V D M q x.1 ((a+1:Nat):Int) (1+14*(a+1)) (fun _ _=>True)/\FI fin L D found)\/y= .ret (.inr (0,13))):=fun hc=>by
      rcases zba h hv hT hfm (found:=found) ha hI' hj2 hCx hF with e|⟨f2,L2,C2,F2,V2,D2,M2,q2,e,e2⟩
      ·refine⟨_,?_, .inr rfl⟩;unfold mq ea;rcases hc with hc|⟨k,rfl,hk,hc⟩
       ·simp(disch:=omega)only[p1,hj1,hd,e,rs]
       ·simp(disch:=omega)only[p1,hj1,hd,e,rs]
      ·refine⟨_,?_, .inl ⟨f2,L2,C2,F2,V2,D2,M2,q2,rfl,e2⟩⟩;unfold mq ea;rcases hc with hc|⟨k,rfl,hk,hc⟩
       ·simp(disch:=omega)only[p1,hj1,hd,e,rs]
       ·simp(disch:=omega)only[p1,hj1,hd,e,rs]
     have hcs:(found<0\/∃k:Nat,found=(k:Int)/\k<L.length/\¬C.getD k 0<x.1)\/∃k:Nat,found=(k:Int)/\k<L.length/\D.getD k false=true/\L.getD k []=fin/\C.getD k 0<x.1:=by
      rcases hF with⟨rfl,_⟩|⟨k,rfl,hk,hdk,hs⟩
      ·exact .inl (.inl (by omega))
      ·by_cases hlt:C.getD k 0<x.1
       ·exact .inr ⟨k,rfl,hk,hdk,hs,hlt⟩
       ·exact .inl (.inr ⟨k,rfl,hk,hlt⟩)
     rcases hcs with hc|⟨k,rfl,hk,hdk,hs,hlt⟩
     ·obtain⟨y,y1,y2⟩:=go hc;refine⟨y,y1,?_⟩;rcases y2 with⟨f2,L2,C2,F2,V2,D2,M2,q2,rfl,a2,I2,hF2⟩|rfl
      ·refine⟨⟨f2,a+1,L2,C2,F2,V2,D2,M2,q2,x.1,rfl,a2,I2,hF2⟩,?_⟩;have:=I2.ln.2;show q2.length+3000*(201-(a+1))<q.length+3000*(201-a);omega
      ·exact .inr rfl
     ·refine⟨.done ((k:Int),rS n L C F V D M),?_, .inl ⟨(k:Int),L,C,F,V,D,M,rfl,jnl hI (.inr ⟨k,rfl,hk,hdk,hs⟩) fun e he=>⟨by omega,?_⟩⟩⟩
      ·unfold mq ea;simp(disch:=omega)only[p1,hj1,hd,rs]
      ·rw[WN];have:=hmin e he;omega
   ·refine⟨.done (found,rS n L C F V D M),?_, .inl ⟨found,L,C,F,V,D,M,rfl,jnl hI hF fun e he=> ?_⟩⟩
    ·unfold mq ea;simp(disch:=omega)only[rs]
    ·exact absurd (List.length_pos_of_mem he) h0
 exact⟨o,h1,h2⟩
theorem jw1(hm:c6 n.1 m0=true)(e1:m0=vp n.1 n.2.2.1)(e2:fin=vp n.1 n.2.2.2.1):∃k e,sq n [] (1,1,1,()) 200=some (k,e)/\(e=13\/(e=10/\∀l,¬Rn n l m0 fin)\/(e=0/\∃l,Rn n l m0 fin/\k=(l.length:Int)/\∀l',Rn n l' m0 fin->l.length<=l'.length)):=by
 have hN:=js hv;have hk:=j4k hN.2.1 hm;have hS:=jmi h hv;have hE:=jwx h hv;rw[<-e1]at hS;rw[<-e2]at hE;have hR:qmf n [] (1,1,1,())=some true:=by
  unfold qmf;simp(disch:=omega)only[hS,jxt,rs]
 have hM:wa (0::m0) 0 (-1) (0,0,⟨#[]⟩,()) n.1 n.2.1 n.2.2.1 n.2.2.2.1 [] 1 1 1 []=some (0,true,n.1,n.2.1,n.2.2.1,n.2.2.2.1,[],1,1,1,[(kA m0,0)],[0::m0],[0],[-1],[(0,0,⟨#[]⟩,())],[false]):=by
  unfold wa;rw[hk];rfl
 obtain⟨o,o1,o2⟩:=jz1 h hv hT hfm (m0:=m0) _ ⟨[m0],[0],[-1],[(0,0,⟨#[]⟩,())],[false],[(kA m0,0)],[(0,0,())],0,rfl,SI.init hm,fun i=>by cases i<;>rfl⟩;have o1:qu9 [] 200 (0::fin) n.1 n.2.1 n.2.2.1 n.2.2.2.1 1 1 1 (-1,0,n.1,n.2.1,n.2.2.1,n.2.2.2.1,[],1,1,1,[0::m0],[0],[-1],[(0,0,⟨#[]⟩,())],[false],[(kA m0,0)],[(0,0,())])=some o:=o1;rcases o2 with⟨found,L,C,F,V,D,M,rfl,hF⟩|rfl
 ·rcases hF with⟨rfl,hF⟩|⟨k,rfl,hk,l,l1,l2,l3⟩
  ·refine⟨0,10,?_, .inr (.inl ⟨rfl,hF⟩)⟩;unfold sq qok;simp(disch:=omega)only[hR,hS,hE,hM,o1,Wv,rs];rfl
  ·refine⟨C.getD k 0,0,?_, .inr (.inr ⟨rfl,l,l1,l2,l3⟩)⟩;unfold sq qok;simp(disch:=omega)only[hR,hS,hE,hM,o1,Wv,rs];show(al (ix (k:Int) C.length)<|al (ix (k:Int) C.length)<|some (C.getD (Int.toNat (k:Int)) 0,(0:Int)))=_;simp(disch:=omega)only[rs]
 ·refine⟨0,13,?_, .inl rfl⟩;unfold sq qok;simp(disch:=omega)only[hR,hS,hE,hM,o1,Wv,rs];rfl
end
end Go.Proofs.YtocndcbobdnagaaGreatDoor
