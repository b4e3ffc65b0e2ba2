/-
  The law: a planned rota.
-/
import Derived.Test.YteljgpepodpebaaGreatZ3S9
set_option linter.all false
namespace Go.Proofs.YteljgpepodpebaaGreat
open Go.K Go.M
theorem Cnt.box{l:List ae}{c:List Int}(h:Cnt l c):jm4 (List.replicate l.length 0) (gu l) c l.length:=fun i hi=>by
 have e:(gu l).getD i 0=(l.getD i ae.z).2.2.1:=em hi;rw[qrh,e];exact h.2 i hi
theorem jgu{d:List Int}{l:List ae}{c:List Int}(h:Good d l)(hc:Cnt l c):0≤fw l c∧fw l c≤1000000:=by
 have h1:=q3e h (hc.c20 h) (Nat.le_refl _);have h2:=h.l1;have h1:0≤fw l c∧fw l c≤l.length*20000:=h1;omega
theorem qoh{d:List Int}{l:List ae}(h:Good d l){c:List Int}(hc:Cnt l c)(hv:Cvr d l c){v:Int}(he:fw l c=v)(t:aw){b:Bool}{x:Int}(hr:qc3 d l (List.replicate l.length 0,gu l,()) t v 20000=some (b,x)):fb d l (c,v,()) t=some b:=by
 have h2:=h.l1;obtain⟨b1,e1,e2⟩:=qiv (l:=l) (c:=c) (by omega);obtain⟨r,e3,e4⟩:=qfx h (hc.c20 h) (Nat.le_of_eq hc.1.symm);have er:r<0:=by
  rcases e4 with⟨rfl,-⟩|⟨k,hk,rfl,hs⟩
  ·omega
  ·have:=hv k hk;omega
 obtain⟨ta,tk⟩:=t;unfold fb;rw[s9 h,af];simp only[Bool.not_true,cond_false];rw[e1,e2.2 hc,af];simp only[Bool.not_true,cond_false];rw[e3,af,xF,jfk h (hc.c20 h) (Nat.le_of_eq hc.1.symm),af,cm he.symm,q3m (by omega),af,hr,af]
theorem jed{d:List Int}{l:List ae}(h:Good d l)(c:List Int)(v:Int)(t:aw):∃b,fb d l (c,v,()) t=some b∧(b=true→Cnt l c∧Cvr d l c∧fw l c=v∧Min d l (List.replicate l.length 0) (gu l) v):=by
 have h2:=h.l1;by_cases hc:Cnt l c
 ·by_cases hv:Cvr d l c
  ·by_cases he:fw l c=v
   ·obtain⟨b,x,hr,hm⟩:=jpu h (qur h) t (cost:=v) (by have:=jgu h hc;omega);exact⟨b,qoh h hc hv he t hr,fun hb=>⟨hc,hv,he,hm hb⟩⟩
   ·obtain⟨b1,e1,e2⟩:=qiv (l:=l) (c:=c) (by omega);obtain⟨r,e3,e4⟩:=qfx h (hc.c20 h) (Nat.le_of_eq hc.1.symm);have er:r<0:=by
     rcases e4 with⟨rfl,-⟩|⟨k,hk,rfl,hs⟩
     ·omega
     ·have:=hv k hk;omega
    refine⟨false,?_,fun h=>by cases h⟩;unfold fb;rw[s9 h,af];simp only[Bool.not_true,cond_false];rw[e1,e2.2 hc,af];simp only[Bool.not_true,cond_false];rw[e3,af,xF,jfk h (hc.c20 h) (Nat.le_of_eq hc.1.symm),af,gn fun e=>he e.symm]
  ·obtain⟨b1,e1,e2⟩:=qiv (l:=l) (c:=c) (by omega);obtain⟨r,e3,e4⟩:=qfx h (hc.c20 h) (Nat.le_of_eq hc.1.symm);have er:0≤r:=by
    rcases e4 with⟨rfl,e5⟩|⟨k,hk,rfl,hs⟩
    ·exact absurd e5 hv
    ·omega
   refine⟨false,?_,fun h=>by cases h⟩;unfold fb;rw[s9 h,af];simp only[Bool.not_true,cond_false];rw[e1,e2.2 hc,af];simp only[Bool.not_true,cond_false];rw[e3,af,lz er]
 ·obtain⟨b1,e1,e2⟩:=qiv (l:=l) (c:=c) (by omega);refine⟨false,?_,fun h=>by cases h⟩;unfold fb;rw[s9 h,af];simp only[Bool.not_true,cond_false];cases b1 with
  |true=>exact absurd (e2.1 rfl) hc
  |false=>rw[e1];rfl
theorem jfa{d:List Int}{l:List ae}(h:Good d l):Cnt l (gu l):=⟨db _ _,fun i hi=>by
 have e:(gu l).getD i 0=(l.getD i ae.z).2.2.1:=em hi;rw[e];exact⟨(h.sh i hi).m0,Int.le_refl _⟩⟩
theorem jqp{d:List Int}{l:List ae}(h:Good d l)(h6:d.length≤6)(h5:l.length≤5)(hv:jf7 l≤200):
  (∃k:Nat,k<d.length∧lu d l (gu l)=some (k:Int)∧∃x y,qbi d l 200=some (x,y,17))∨
  (∃c v ta tk,qbi d l 200=some ((c,v,()),Tre.mk ta tk,0)∧BestOK d l c v∧fb d l (c,v,()) (Tre.mk ta tk)=some true):=by
 obtain⟨r,e3,e4⟩:=qfx h ((jfa h).c20 h) (Nat.le_of_eq (jfa h).1.symm);unfold qbi;rw[s9 h,af];simp only[Bool.not_true,cond_false];rw[xN,xN,q2r (by omega),af,e3,af];rcases e4 with⟨rfl,hcv⟩|⟨k,hk,rfl,hs⟩
 ·obtain⟨c,fl,v,e5,hb⟩:=jmi h hcv;have hb1:=qur h;have hvol:qht (List.replicate l.length 0) (gu l) l.length=jf7 l:=qrf fun i hi=>by
   have e:(gu l).getD i 0=(l.getD i ae.z).2.2.1:=em hi;rw[qrh,e];omega
  have hc1:=q3e h (hb.cnt.c20 h) (Nat.le_refl _);have hc1:0≤fw l c∧fw l c≤l.length*20000:=hc1;have hc2:=hb.cost;obtain⟨⟨ta,tk⟩,left',e6,left2,e7⟩:=jpi h h6 h5 (cost:=v) (by omega) (fun a ha hac=>(hb.le a ha hac).1) (jrh h (by omega)) hb1 (by omega);have e8:=qoh h hb.cnt hb.cvr hb.cost _ e7;refine .inr ⟨c,v,ta,tk,?_,hb,e8⟩;rw[xF,ju9 h hv,af,g9,xN,e5,af,q3m (by omega),af];dsimp only;rw[e6,af];simp only[Bool.not_true,cond_false];rw[e8,af];rfl
 ·rw[xE];exact .inl ⟨k,hk,rfl,_,_,rfl⟩
theorem jpe{d:List Int}{l:List ae}(h:Good d l){p:List Int}{v:Int}(hb:BestOK d l p v){other:List Int}(b80 b81:Int)(b82:List aw)(b83:List ab)(hc:Cnt l other)(hv:Cvr d l other):ly d l other true p v b80 b81 b82 b83=some (.inl ()):=by
 have h2:=h.l1;have h1:=hb.le other hc hv;have q1:=hc.1;have q2:=hb.cnt.1;obtain⟨r,e1,e2⟩:=jgs (a:=other) (b:=p) (by omega) (by omega);obtain⟨b,e3,e4⟩:=jed h other (fw l other) (Tre.mk ((b80,b81,()),(b83,())) b82);have hchk:v<fw l other→b=false:=fun hlt=>by
  cases b with
  |false=>rfl
  |true=>
   have h3:=(e4 rfl).2.2.2 p hb.cnt.box hb.cvr;have h4:=hb.cost;omega
 unfold ly qaq;rw[cond_true,jh0 h (hc.c20 h) (Nat.le_of_eq hc.1.symm),af,bj h1.1];by_cases c1:fw l other=v
 ·have hr:¬r<0:=fun hr=>h1.2 c1 (by rw[←q1];exact e2 hr)
  rw[bu c1,e1,af,xN,xN]
 ·rw[bg c1,xL,e3,hchk (by omega)];rfl
theorem j6j{d:List Int}(l:List ae)(p:List Int)(v a:Int)(X Y Z:List ab)(s4 s5:Int)(hd:d.length≤1000)(hn:∀t,t<d.length→0≤d.getD t 0)(hY:(je d d.length).length≤Y.length):qkk d l d (d.length:Int) p v a X Y Z s4 s5 (0,0,[])=some (.inl (qcp d Y d.length)):=by
 refine j9 (fun k=>(((je d k).length:Int),(k:Int),qcp d Y k)) d.length (cr (by omega)) _ (fun k hk=> ?_) ?_ _ rfl
 ·have h1:(qcp d Y k).length=k:=db _ _;have h2:qcp d Y (k+1)=qcp d Y k++[if d.getD k 0=0 then(0,1,())else Y.getD (je d k).length ab.z]:=s8 _ _;have h3:=qvb d k;have h4:=hn k hk;unfold rf o7;dsimp only;rw[xL,xI,xI,h2];simp only[Int.toNat_natCast];by_cases c1:d.getD k 0=0
  ·have e:je d (k+1)=je d k:=if_neg (by omega);rw[bu c1,if_pos c1,af,xM,xR,am,e]
  ·have h5:=jcl (d:=d) (t:=k) (by omega) hk;have e:je d (k+1)=je d k++[k]:=if_pos (by omega);rw[bg c1,if_neg c1,xI,xI,xM,xR,xR,am,am,e,List.length_append];rfl
 ·unfold rf;dsimp only;rw[xN]
theorem jq7{d:List Int}{l:List ae}(y:List ab)(hl:l.length≤1000):qas d l y=bnd (qcu d l (List.replicate l.length 0) (gu l) y) fun r=>some r.2:=by
 have hL:qqr d l y l (l.length:Int) (0,[],[])=some (.inl (List.replicate l.length 0,gu l)):=by
  refine j9 (fun k=>((k:Int),List.replicate k 0,be k fun i=>(l.getD i ae.z).2.2.1)) l.length (cr (by omega)) _ (fun k hk=> ?_) ?_ _ rfl
  ·have h1:=db k fun i=>(l.getD i ae.z).2.2.1
   have h2:(List.replicate k (0:Int)).length=k:=List.length_replicate ..;have h3:List.replicate (k+1) (0:Int)=List.replicate k 0++[0]:=List.replicate_succ';unfold wu;dsimp only;rw[xL,xI,xI,xM,xM,xR,am,h3,s8,Int.toNat_natCast]
  ·unfold wu;dsimp only;rw[xN];rfl
 unfold qas;rw[hL];rfl
theorem jrc{d:List Int}{l:List ae}(h:Good d l){p:List Int}{v:Int}(hb:BestOK d l p v){y:List ab}(hy:YG d.length y)(hv:((v-1:Int):Rat)<qrj d l (List.replicate l.length 0) (gu l) y):
  ∃b,fb d l (p,v,()) (Tre.mk ((0,0,()),(y,())) [])=some b∧(b=false→qas d l y=some false):=by
 have h2:=h.l1;have hbx:=qur h;have hc:=jgu h hb.cnt;have hcv:=hb.cost;obtain⟨b,e1,-⟩:=jed h p v (Tre.mk ((0,0,()),(y,())) []);refine⟨b,e1,fun hbf=> ?_⟩;obtain⟨r,ok,e2,-⟩:=jd9 h hy.1 hbx.ll hbx.hl;rw[jq7 y (by omega),jfo h hy.1 hbx.ll hbx.hl,e2,af];cases ok with
 |false=>rfl
 |true=>
  obtain⟨b2,e3,-,e4⟩:=qjb h (y:=y) hbx.ll hbx.hl (cost:=v) (by omega);have e5:=e4 hy ⟨r,e2⟩ hv;rw[e5]at e3;have hr:=jaj h (.leaf _ _ y e3) many 20000 (by omega) (by omega) (by have:=cr (n:=1) (by omega);omega);have e6:=qoh h hb.cnt hb.cvr hb.cost (Tre.mk ((0,0,()),(y,())) []) (show qc3 d l (List.replicate l.length 0,gu l,()) (Tre.mk ((0,0,()),(y,())) []) v 20000=some (true,20000-((1:Nat):Int))from hr);rw[e6]at e1;rw[hbf]at e1;cases e1
theorem j1w{d:List Int}{l:List ae}(h:Good d l){p:List Int}{v:Int}(hb:BestOK d l p v):ub d l p v=some (.inr true):=by
 have h2:=h.l1;have h1:=h.d1;have hc:=jgu h hb.cnt;have hcv:=hb.cost;unfold ub qar qh5;rw[s9 h,af];simp only[Bool.not_true,cond_false];by_cases c0:(l.length:Int)=0
 ·rw[bu c0,af];rfl
 have hbx:=qur h;rw[bg c0,q3m (by omega),af,q4v h hbx.ll hbx.hl,af];show(bnd (bif decide ((12:Int)<((prog l (ck d l)).2.1.length:Int))then some (([],[],[],[],()),5)else some (prog l (ck d l),0)) _)=_;by_cases c1:(12:Int)<((prog l (ck d l)).2.1.length:Int)
 ·rw[bi c1,af];rfl
 have hm:(prog l (ck d l)).2.1.length=(ck d l).length:=pm;have hr:=th d l;obtain⟨hv1,hv2⟩:=jiq (w:=ck d l) (jfs h hbx) (by omega) h2 (by omega) (by omega) fun i hi' =>⟨(h.sh i hi').p0,(h.sh i hi').p1⟩
 obtain⟨s,x,e1,-,e3⟩:=jdw hv1 hv2;rw[xN,af,cm rfl];dsimp only;rw[e1,af];dsimp only;rcases e3 with⟨rfl,e3,e4⟩|rfl
 ·obtain⟨k1,k2,k3⟩:=j1v h hb.cnt hb.cvr e4;obtain⟨g1,g2⟩:=jqe h hb.cnt hb.cvr k2;have g3:=jnj h k2;have g4:=jpg h k2;have g5:=jiz g1 (nu (n:=v) (by omega) (by omega));rw[nk,hcv]at*;have hlen:=k2.len;obtain⟨ce,e5,e6,e7⟩:=jqf g1;rw[cm rfl,cm k1,e3,af];simp only[Bool.not_true,cond_false];unfold o7;rw[af,ja5,af,jm1 hv1 hv2 k2,af,k3];rw[cm g5.2.2,bj (g5.1.2 g2),cm rfl];simp only[decide_true,Bool.and_true,Bool.not_true,cond_false];rw[j6j l p v _ _ _ _ _ _ (by omega) (fun t ht=>(h.dn t ht).1) (by omega),af,g9,e5,af,bu rfl];by_cases c2:ce=v
  ·rw[cm c2];obtain⟨b,e8,e9⟩:=jrc h hb g4 (by
    rw[c2]at e7;have:((v-1:Int):Rat)=(v:Rat)-1:=Rat.intCast_sub ..
    grind)
   rw[e8,af];cases b with
   |true=>rfl
   |false=>rw[cond_false,e9 rfl,af];rfl
  ·rw[gn c2]
 ·rfl
theorem jjt(d:List Int)(l:List ae)(other:List Int):qgg d l other=some true:=by
 unfold qgg;rw[jgg,af];simp only[Bool.not_true,cond_false];by_cases g1:(6:Int)<d.length
 ·rw[bi g1]
 rw[xN];by_cases g2:(5:Int)<l.length
 ·rw[bi g2]
 rw[xN];by_cases g3:(8:Int)<other.length
 ·rw[bi g3]
 rw[xN];obtain⟨b,e1,e2⟩:=jfq d l;rw[e1,af];cases b with
 |false=>rfl
 |true=>
  have h:=e2 rfl;have h2:=h.l1;obtain⟨r,e3,e4⟩:=jl3 h;simp only[Bool.not_true,cond_false];rw[e3,af];by_cases g4:(200:Int)<r
  ·rw[bi g4]
  rw[xN];rcases jqp h (by omega) (by omega) (e4 g4)with⟨k,hk,e5,x,y,e6⟩|⟨c,v,ta,tk,e5,hb,e6⟩
  ·rw[e6,af];unfold qbj;rw[gn (show¬(17:Int)=0 by omega),s9 h,af];simp only[Bool.not_true,cond_false];rw[q2r (by omega),af,e5,af,xE,af,bu rfl];show(bif decide ((0:Int)≤(k:Int))then some (decide ((k:Int)<(d.length:Int)))else some false)=some true;rw[xE];exact congrArg some (decide_eq_true (by show(k:Int)<_;omega))
  ·rw[e5,af];dsimp only;rw[cm rfl,e6,af];simp only[Bool.not_true,cond_false];rw[cm (by rw[hb.cnt.1])];have hlp:=j1w h hb;have no:ly d l other false c v ta.1.1 ta.1.2.1 tk ta.2.1=some (.inl ()):=rfl;unfold qlq;rw[s9 h,af];simp only[Bool.not_true,cond_false];obtain⟨b1,e7,e8⟩:=qiv (l:=l) (c:=other) (by omega);rw[e7,af];cases b1 with
   |false=>
    simp only[Bool.not_false,cond_true];rw[af,bg (show¬(1:Int)=0 by omega),no,af,g9,hlp];rfl
   |true=>
    have hoc:=e8.1 rfl;obtain⟨r2,e9,e10⟩:=qfx h (hoc.c20 h) (Nat.le_of_eq hoc.1.symm);simp only[Bool.not_true,cond_false];rw[e9,af,af,bu rfl];rcases e10 with⟨rfl,e10⟩|⟨k,hk,rfl,e10⟩
    ·have e11:=jpe h hb (other:=other) ta.1.1 ta.1.2.1 tk ta.2.1 hoc e10;show bnd (ly d l other true c v ta.1.1 ta.1.2.1 tk ta.2.1) _=_;rw[e11,af,g9,hlp];rfl
    ·dsimp only;rw[decide_eq_false (show¬(k:Int)<0 by omega),no,af,g9,hlp];rfl
end Go.Proofs.YteljgpepodpebaaGreat
