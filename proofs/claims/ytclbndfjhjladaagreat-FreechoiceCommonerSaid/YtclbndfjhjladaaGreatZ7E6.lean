/-
  Freechoice: Commoner's property and liveness.
-/
import Derived.Test.YtclbndfjhjladaaGreatZ7E5
import Derived.Test.YtclbndfjhjladaaGreatZ7L1
set_option linter.all false
namespace Go.Proofs.YtclbndfjhjladaaGreat
open Go.K Go.M
theorem zdw{n:dj}{N:Nat}(hN:N≤12){W:List Int}(hb:∀x∈W,(0:Int)≤x∧x<(N:Int))(hc:q9 n.2.1 false W)(hne:W≠[]):∃k,k<2 ^ N∧q58 n N k=true∧∀x∈jz N k,x∈W:=by
 have h16:2 ^ N≤2 ^ 16:=Nat.pow_le_pow_right (by omega) (by omega);have hlt:=jsh hb;have key:∀k,k<2 ^ N→1≤k→j12 k (qt W)→clo n N k=true→∃f,f<2 ^ N∧q58 n N f=true∧j12 f (qt W):=by
  intro k
  induction k using Nat.strongRecOn with
  |_ k ih=>
   intro hk h1 hs hcl;cases hsub:qio n N N k with
   |false=>exact⟨k,hk,by unfold q58;rw[hsub,hcl,decide_eq_true h1];rfl,hs⟩
   |true=>
    unfold qio at hsub;obtain⟨p,hp,h2⟩:=List.any_eq_true.1 hsub;rw[Bool.and_eq_true,q61]at h2;obtain⟨h2,g,g1,g2,g3⟩:=h2;have h3:=j2l (k:=k) (p:=p) (by omega) h2;have h4:=js6 g2;exact ih g (by omega) (by omega) g1 (fun i hi=>hs i (jri (by omega) i (g2 i hi))) g3
 obtain⟨f,hf,h1,h2⟩:=key (qt W) hlt (j3m (fun x hx=>(hb x hx).1) hne) (fun _ h=>h) (zat hb hc);refine⟨f,hf,h1,fun x hx=> ?_⟩;obtain⟨p,_,hp,rfl⟩:=qko.1 hx;have:=h2 p hp;rw[qu7 fun x hx=>(hb x hx).1,t3]at this;exact this
theorem jzg{n:dj}{N:Nat}{row:List Int}:row∈srt (fw n N)↔∃k,k<2 ^ N∧q58 n N k=true∧row=jz N k:=by
 have hp:=List.mergeSort_perm (fw n N) (fun x y=> !em y x);rw[show(row∈srt (fw n N))↔row∈fw n N from hp.mem_iff];unfold fw zn;rw[List.mem_map];constructor
 ·rintro⟨k,hk,rfl⟩;rw[List.mem_filter,List.mem_range]at hk;exact⟨k,hk.1,hk.2,rfl⟩
 ·rintro⟨k,h1,h2,rfl⟩;exact⟨k,List.mem_filter.2 ⟨List.mem_range.2 h1,h2⟩,rfl⟩
theorem j50{n:dj}(hf:jp1 n.2.1=true):FC.Free n.1.toNat n.2.1.length (Ip n):=by
 have key:∀i k,i<n.2.1.length→k<i→∀p:Nat,Ip n i p→Ip n k p→(n.2.1.getD i ab.z).2.1=(n.2.1.getD k ab.z).2.1:=fun i k hi hk p h1 h2=>by
  unfold jp1 at hf;have h3:=List.all_eq_true.1 (List.all_eq_true.1 hf i (List.mem_range.2 hi)) k (List.mem_range.2 hk);unfold frB at h3;rw[Bool.or_eq_true,Bool.not_eq_true',decide_eq_true_iff]at h3;rcases h3 with h3|h3
  ·unfold j5m at h3;have:=List.any_eq_false.1 h3 _ h1;exact absurd (t3.2 h2) this
  ·exact h3
 intro t u p ht hu _ h1 h2 q _;rcases Nat.lt_trichotomy t u with h3|h3|h3
 ·have:=key u t hu h3 p h2 h1;show(q:Int)∈_↔(q:Int)∈_;rw[this]
 ·rw[h3]
 ·have:=key t u ht h3 p h1 h2;show(q:Int)∈_↔(q:Int)∈_;rw[this]
section
variable {n : dj} (h : Small n) (hv : n5 n = true)
include hv
theorem jp5{t:ab}(ht:t∈n.2.1):(∀x∈t.2.1,0≤x∧x<n.1)∧∀x∈t.2.2.1,0≤x∧x<n.1:=
 ⟨(qvj.1 (qvp hv ht).1).1,(qvj.1 (qvp hv ht).2).1⟩
theorem jvg(S:Nat→Prop):∃W:List Int,∀x:Int,x∈W↔∃p:Nat,p<n.1.toNat∧S p∧(p:Int)=x:=by
 refine⟨((List.range n.1.toNat).filter fun p=> @decide (S p) (Classical.propDecidable _)).map fun p:Nat=>(p:Int),fun x=> ?_⟩;rw[List.mem_map];constructor
 ·rintro⟨p,hp,rfl⟩;rw[List.mem_filter,List.mem_range]at hp;exact⟨p,hp.1,(@decide_eq_true_iff _ (Classical.propDecidable _)).1 hp.2,rfl⟩
 ·rintro⟨p,h1,h2,rfl⟩;exact⟨p,List.mem_filter.2 ⟨List.mem_range.2 h1,(@decide_eq_true_iff _ (Classical.propDecidable _)).2 h2⟩,rfl⟩
theorem jxq{S:Nat→Prop}{W:List Int}(hW:∀x:Int,x∈W↔∃p:Nat,p<n.1.toNat∧S p∧(p:Int)=x)(hS:FC.Siphon n.1.toNat n.2.1.length (Ip n) (Op n) S):q9 n.2.1 false W:=by
 refine qd2.2 fun t ht ⟨x,hx,hw⟩=> ?_
 obtain⟨i,hi,rfl⟩:=qrr ab.z ht;obtain⟨p,hp,hs,rfl⟩:=(hW x).1 hw;obtain⟨q,hq,h1,h2⟩:=hS i hi p hp hx hs;exact⟨q,h1,(hW _).2 ⟨q,hq,h2,rfl⟩⟩
theorem jvn{S:Nat→Prop}{W:List Int}(hW:∀x:Int,x∈W↔∃p:Nat,p<n.1.toNat∧S p∧(p:Int)=x)(hS:FC.Trap n.1.toNat n.2.1.length (Ip n) (Op n) S):q9 n.2.1 true W:=by
 refine qd2.2 fun t ht ⟨x,hx,hw⟩=> ?_
 obtain⟨i,hi,rfl⟩:=qrr ab.z ht;obtain⟨p,hp,hs,rfl⟩:=(hW x).1 hw;obtain⟨q,hq,h1,h2⟩:=hS i hi p hp hx hs;exact⟨q,h1,(hW _).2 ⟨q,hq,h2,rfl⟩⟩
theorem jty{W:List Int}(hc:q9 n.2.1 true W):FC.Trap n.1.toNat n.2.1.length (Ip n) (Op n) (fun p=>(p:Int)∈W):=fun t ht p _ hi hw=>by
 obtain⟨x,hx,hxw⟩:=qd2.1 hc _ (bm ab.z ht) ⟨(p:Int),hi,hw⟩;have hb:=(jp5 hv (bm ab.z ht)).2 x hx;refine⟨x.toNat,by omega,?_,?_⟩
 ·show((x.toNat:Nat):Int)∈_;rw[Int.toNat_of_nonneg hb.1];exact hx
 ·show((x.toNat:Nat):Int)∈W;rw[Int.toNat_of_nonneg hb.1];exact hxw
theorem jwg{W:List Int}(hc:q9 n.2.1 false W):FC.Siphon n.1.toNat n.2.1.length (Ip n) (Op n) (fun p=>(p:Int)∈W):=fun t ht p _ hi hw=>by
 obtain⟨x,hx,hxw⟩:=qd2.1 hc _ (bm ab.z ht) ⟨(p:Int),hi,hw⟩;have hb:=(jp5 hv (bm ab.z ht)).1 x hx;refine⟨x.toNat,by omega,?_,?_⟩
 ·show((x.toNat:Nat):Int)∈_;rw[Int.toNat_of_nonneg hb.1];exact hx
 ·show((x.toNat:Nat):Int)∈W;rw[Int.toNat_of_nonneg hb.1];exact hxw
include h
theorem j23{l G:List Int}(hG:jle n.2.1 true l G):∀x∈G,x∈l:=by
 obtain⟨⟨⟨q,rfl⟩,_⟩,_⟩:=hG;exact fun x hx=>(List.mem_filter.1 hx).1
theorem j2m{m:List Int}(hmk:l4 n.1 m=true)(hf:jp1 n.2.1=true)(hu:((List.range n.1.toNat).all fun p=>jvr n.2.1 (p:Int))=true)(hN:n.1.toNat≤12):
  (j2e n h m (srt (fw n n.1.toNat))=(true,[],0)∧jx7 n (mkF m))∨
  (∃k,k<2 ^ n.1.toNat∧q58 n n.1.toNat k=true∧j2e n h m (srt (fw n n.1.toNat))=(false,jz n.1.toNat k,0)∧¬jx7 n (mkF m)):=by
 have hVN:=q2q hv;have hml:=qfi.1 hmk;have hnn:∀p,p<n.1.toNat→0≤mkF m p:=fun p hp=>(hml.2 p (by omega)).1
 have hF:=j50 hf;have hrl:∀k,(jz n.1.toNat k).length≤1000000:=fun k=>by have:=q41 n.1.toNat k;omega
 unfold j2e;cases hfx:zm (jts n h m) (srt (fw n n.1.toNat))with
 |none=>
  refine .inl ⟨rfl,FC.live_of hF hnn fun S hS ⟨p0,hp0,hs0⟩=> ?_⟩;obtain⟨W,hW⟩:=jvg hv S;have hWb:∀x∈W,(0:Int)≤x∧x<((n.1.toNat:Nat):Int):=fun x hx=>by
   obtain⟨p,hp,_,rfl⟩:=(hW x).1 hx;omega
  obtain⟨k,hk,hmin,hsub⟩:=zdw hN hWb (jxq hv hW hS) (fun e=>by
   have:=(hW _).2 ⟨p0,hp0,hs0,rfl⟩;rw[e]at this;cases this)
  have hnb:=qyo hfx _ (jzg.2 ⟨k,hk,hmin,rfl⟩);unfold jts at hnb;rw[Bool.not_eq_false']at hnb;obtain⟨-,hG⟩:=jhs h (jz n.1.toNat k) (hrl k);generalize q7h n h (jz n.1.toNat k)=G at hnb hG;have hGs:=j23 h hv hG;refine⟨fun p=>(p:Int)∈G,jty hv hG.2,fun p _ hp=> ?_,?_⟩
  ·obtain⟨q,_,hs,e⟩:=(hW _).1 (hsub _ (hGs _ hp));rw[show p=q by omega];exact hs
  ·unfold j1a at hnb;obtain⟨x,hx,h1⟩:=List.any_eq_true.1 hnb;have h1:=of_decide_eq_true h1;have hb:=hWb x (hsub _ (hGs _ hx));refine⟨x.toNat,by omega,?_,?_⟩
   ·show((x.toNat:Nat):Int)∈G;rw[Int.toNat_of_nonneg hb.1];exact hx
   ·show 1≤m.getD x.toNat 0;omega
 |some i=>
  obtain⟨hi,hbad,_⟩:=qyp [] hfx;obtain⟨k,hk,hmin,e⟩:=jzg.1 (bm [] hi);refine .inr ⟨k,hk,hmin,by show(false,(srt (fw n n.1.toNat)).getD i [],(0:Int))=_;rw[e],?_⟩;rw[e]at hbad;unfold jts at hbad;rw[Bool.not_eq_true']at hbad;obtain⟨-,hG⟩:=jhs h (jz n.1.toNat k) (hrl k);generalize q7h n h (jz n.1.toNat k)=G at hbad hG;have hmin2:=hmin;unfold q58 at hmin2;rw[Bool.and_eq_true,Bool.and_eq_true,decide_eq_true_iff]at hmin2;have hcl:q9 n.2.1 false (jz n.1.toNat k):=hmin2.2.2;have hne:=jyh hmin2.1 hk;obtain⟨x,hx⟩:=List.exists_mem_of_ne_nil _ hne;obtain⟨p,hp,_,rfl⟩:=qko.1 hx;have hup:=List.all_eq_true.1 hu p (List.mem_range.2 hp);unfold jvr at hup;obtain⟨t,ht,htp⟩:=List.any_eq_true.1 hup;obtain⟨ti,hti,rfl⟩:=qrr ab.z ht;refine FC.not_live hF hnn (jwg hv hcl) ⟨p,hp,hx,ti,hti,t3.1 htp⟩ fun Q hQ hQS q hq hqQ=> ?_
  obtain⟨W,hW⟩:=jvg hv Q;have hin:=hG.1.2 W (jvn hv hW hQ) (fun x hx=>by
   obtain⟨r,hr,hrQ,rfl⟩:=(hW x).1 hx;exact hQS r hr hrQ) _ ((hW _).2 ⟨q,hq,hqQ,rfl⟩)
  unfold j1a at hbad;have:=List.any_eq_false.1 hbad _ hin;rw[decide_eq_true_iff,Int.toNat_natCast]at this;show m.getD q 0≤0;omega
end
end Go.Proofs.YtclbndfjhjladaaGreat
