/-
  Freechoice: the law FreechoiceCommoner.
-/
import Derived.Test.YtclbndfjhjladaaGreatZ7E6
set_option linter.all false
namespace Go.Proofs.YtclbndfjhjladaaGreat
open Go.K Go.M
theorem j40(l:List Int)(n:dj)(hl:l.length≤1000000):fm l n=some (l.any fun p=>decide (p<0)||decide (n.1≤p)):=by
 have hL:qax l n (l.length:Int) 0=some (q38 (fun i=>(i:Int)) (zm (fun p=>decide (p<0)||decide (n.1≤p)) l)):=by
  refine kq l 0 (fun p=>decide (p<0)||decide (n.1≤p)) (fun i=>(i:Int)) (by omega) (fun i hi=> ?_) ?_
  ·simp(disch:=omega)only[jb,ri,rs];rw[ar];cases decide (l.getD i 0<0)<;>cases decide (n.1≤l.getD i 0)<;>rfl
  ·simp(disch:=omega)only[jb,rs]
 unfold fm qp;rw[hL,ao,qbc,ao,qfa]
theorem jx5(a b:List Int)(ha:a.length≤1000000)(hb:b.length≤1000000):i9 a b=some (qb1 a b):=by
 have hL:qaz a b (a.length:Int) 0=some (q38 (fun i=>(i:Int)) (zm (fun p=>u7 b p) a)):=by
  refine kq a 0 (fun p=>u7 b p) (fun i=>(i:Int)) (by omega) (fun i hi=> ?_) ?_
  ·simp(disch:=omega)only[jd,rj,qip b hb,rs];rw[ar];cases u7 b (a.getD i 0)<;>rfl
  ·simp(disch:=omega)only[jd,rs]
 unfold i9 qq qb1;rw[hL,ao,qbc,ao,qfa]
theorem j41(a b:List Int)(ha:a.length≤1000000)(hb:b.length≤1000000):ny a b=some (qb1 a b):=jx5 a b ha hb
theorem j2n(l:List Bool)(h:l.length≤1000000):di l false=some (l.any fun y=>false==y):=by
 have hL:qhb l false (l.length:Int) 0=some (q38 (fun i=>(i:Int)) (zm (fun y=>false==y) l)):=by
  refine kq l false (fun y=>false==y) (fun i=>(i:Int)) (by omega) (fun i hi=> ?_) ?_
  ·simp(disch:=omega)only[nk,rs];rw[ar];cases l.getD i false<;>rfl
  ·simp(disch:=omega)only[nk,rs]
 unfold di qbq;rw[hL,ao,qbc,ao,qfa]
theorem jxr{n:dj}(h:Small n)(m l:List Int)(hl:l.length≤1000000)(lv:Bool)(hc:q9 n.2.1 false l):rg m lv n.2.1 (n.2.1.length:Int) n.1 n.2.1 n.2.2.1 n.2.2.2.1 l 0=some (.inl ()):=by
 have hT:=h.trans;refine qfh (fun i=>(i:Int)) n.2.1.length (fg (by omega)) () (fun i hi=> ?_) ?_ _ rfl
 ·have ht:=bm (l:=n.2.1) ab.z hi;have h1:=h.ins _ ht;have h2:=h.outs _ ht;have h3:=qd2.1 hc _ ht;unfold lh;rw[qpi (by omega),fy (by omega) (by omega),fy (by omega) (by omega)];simp only[Int.toNat_natCast];rw[jx5 _ _ (by omega) hl,ao];cases c1:qb1 (n.2.1.getD i ab.z).2.2.1 l with
  |false=>rw[cond_false,lz (by omega) (by omega),ar]
  |true=>
   have h4:qb1 (n.2.1.getD i ab.z).2.1 l=true:=tq.2 (h3 (tq.1 c1));rw[cond_true,j41 _ _ (by omega) hl,ao,h4];simp only[Bool.not_true,cond_false];rw[lz (by omega) (by omega),ar]
 ·unfold lh;rw[qe8 (by omega)]
section
variable {n : dj} (h : Small n) (hv : n5 n = true) {m : List Int} {σ : Sig} (P : SpcOK n 400 m σ)
include h hv P
theorem j52(lv all:Bool){t:Nat}(ht:t<n.2.1.length)(v96 v97:Int):qea lv all (t:Int) v96 v97 σ.2.1 (σ.2.1.length:Int) n.1 n.2.1 n.2.2.1 n.2.2.2.1 σ.2.1 σ.2.2 σ.1 (0,List.replicate (Int.toNat (σ.2.1.length:Int)) false)=some (.inl (cp σ.2.1.length fun i=>qk (n.2.1.getD t ab.z) (gg σ i))):=by
 have hlen:=P.sp.len;have hT:=h.trans;refine qfh (fun k=>((k:Int),cp σ.2.1.length fun i=>if i<k then qk (n.2.1.getD t ab.z) (gg σ i)else false)) σ.2.1.length (fg (by omega)) _ (fun k hk=> ?_) ?_ _ ?_
 ·have hx:=P.sp.mks _ (bm [] hk);have hml:=(qfi.1 hx).1;have hVN:=q2q hv;have hE:=jlc h (σ.2.1.getD k []) (by omega);rw[hv,hx]at hE;have hE:qcw (n.1,n.2.1,n.2.2.1,n.2.2.2.1,()) (σ.2.1.getD k [])=some (0,enL n (σ.2.1.getD k [])):=hE;have hl2:(enL n (σ.2.1.getD k [])).length≤1000000:=by
   unfold enL enN;rw[List.length_map];have:=List.length_filter_le (fun j=>qk (n.2.1.getD j ab.z) (σ.2.1.getD k [])) (List.range n.2.1.length);rw[List.length_range]at this;omega
  have hmem:u7 (enL n (σ.2.1.getD k [])) (t:Int)=qk (n.2.1.getD t ab.z) (gg σ k):=by
   rw[Bool.eq_iff_iff,t3];unfold enL enN;rw[List.mem_map];constructor
   ·rintro⟨j,hj,e⟩;rw[List.mem_filter]at hj;rw[show t=j by omega];exact hj.2
   ·intro hc;exact⟨t,List.mem_filter.2 ⟨List.mem_range.2 ht,hc⟩,rfl⟩
  have htl:=jd6 σ.2.1.length fun i=>if i<k then qk (n.2.1.getD t ab.z) (gg σ i)else false
  unfold li;dsimp only;rw[qpi (by omega),fy (by omega) (by omega),fy (by omega) (by omega),Int.toNat_natCast,hE,ao,jrb rfl,qip _ hl2,ao,hmem,fy (by omega) (by omega),fy (by omega) (by omega),lz (by omega) (by omega),ar,js7];refine congrArg (fun z=>some (LR.next (((k+1:Nat):Int),z))) (qjf fun i hi=> ?_);by_cases e:i=k
  ·rw[if_pos e,if_pos (by omega),e]
  ·rw[if_neg e];by_cases e2:i<k
   ·rw[if_pos e2,if_pos (by omega)]
   ·rw[if_neg e2,if_neg (by omega)]
 ·unfold li;dsimp only;rw[qe8 (by omega)];exact congrArg (fun z=>some (LR.done z)) (qjf fun i hi=>if_pos hi)
 ·rw[Int.toNat_natCast,jzx];exact congrArg (fun z=>((0:Int),z)) (qjf fun i _=>(if_neg (by omega)).symm)
theorem zag(lv:Bool):∃b,rh lv (n.2.1.length:Int) n.1 n.2.1 n.2.2.1 n.2.2.2.1 σ.2.1 σ.2.2 σ.1 (true,0)=some (.inl b)∧(b=true↔∀t,t<n.2.1.length→∀i,i<σ.2.1.length→∃j,Way σ.2.2 i j∧j<σ.2.1.length∧qk (n.2.1.getD t ab.z) (gg σ j)=true):=by
 have hlen:=P.sp.len;have hT:=h.trans;have hVN:=q2q hv;have hmv:zad σ.2.1.length σ.2.2:=fun x hx=>by
  obtain⟨a,b,t,e,h1,h2,-⟩:=P.mv x hx;exact⟨a,b,t,e,h1,h2⟩
 have hml:σ.2.2.length≤400*60:=Nat.le_trans P.ml (Nat.mul_le_mul_left _ hVN.2.2.2.2);obtain⟨o,ho,b,rfl,hb⟩:=qld (step:=fun a:Bool×Int=>lj (R:=LR (Bool×Int) Bool Bool) lv (n.2.1.length:Int) n.1 n.2.1 n.2.2.1 n.2.2.2.1 σ.2.1 σ.2.2 σ.1 a.1 a.2 (fun a' =>some (.next a')) (fun e=>some (.done e)) (fun r=>some (.ret r)))
  (fun x=>∃k:Nat,x.2=(k:Int)∧k≤n.2.1.length∧(x.1=true↔∀t,t<k→∀i,i<σ.2.1.length→∃j,Way σ.2.2 i j∧j<σ.2.1.length∧qk (n.2.1.getD t ab.z) (gg σ j)=true)) (fun a=>n.2.1.length-a.2.toNat)
  (fun o=>∃b,o= .inl b∧(b=true↔∀t,t<n.2.1.length→∀i,i<σ.2.1.length→∃j,Way σ.2.2 i j∧j<σ.2.1.length∧qk (n.2.1.getD t ab.z) (gg σ j)=true)) (true,0) ⟨0,rfl,Nat.zero_le _,⟨fun _ t ht=>by omega,fun _=>rfl⟩⟩ (by show n.2.1.length-(0:Int).toNat<many;have:=fg (n:=n.2.1.length) (by omega);omega) (by
   rintro⟨all,a⟩ ⟨k,rfl,hk,hall⟩;dsimp only at hall;unfold lj;dsimp only;by_cases hlt:k<n.2.1.length
   ·have fin:∀b:Bool,(b=true↔∀t,t<k+1→∀i,i<σ.2.1.length→∃j,Way σ.2.2 i j∧j<σ.2.1.length∧qk (n.2.1.getD t ab.z) (gg σ j)=true)→∃x,ae (bc .i64 ((k:Int)+1)) (some (LR.next (b,(k:Int)+1)):Option (LR (Bool×Int) Bool Bool))=some x∧
      jv0 (fun x:Bool×Int=>∃k:Nat,x.2=(k:Int)∧k≤n.2.1.length∧(x.1=true↔∀t,t<k→∀i,i<σ.2.1.length→∃j,Way σ.2.2 i j∧j<σ.2.1.length∧qk (n.2.1.getD t ab.z) (gg σ j)=true)) (fun a=>n.2.1.length-a.2.toNat)
       (fun o:Bool⊕Bool=>∃b,o= .inl b∧(b=true↔∀t,t<n.2.1.length→∀i,i<σ.2.1.length→∃j,Way σ.2.2 i j∧j<σ.2.1.length∧qk (n.2.1.getD t ab.z) (gg σ j)=true)) (n.2.1.length-(k:Int).toNat) x:=fun b hb=>by
     rw[lz (by omega) (by omega),ar];refine⟨_,rfl,⟨k+1,rfl,by omega,hb⟩,?_⟩;show n.2.1.length-((k+1:Nat):Int).toNat<n.2.1.length-(k:Int).toNat;omega
    rw[qpi (by omega),jrf (by omega) (by omega) (by omega) (by omega),j52 h hv P lv all hlt,ao,i6];cases all with
    |false=>
     rw[cond_false];refine fin false ⟨fun h=>(by cases h),fun hx=> ?_⟩;exact hall.2 fun t ht=>hx t (by omega)
    |true=>
     obtain⟨g,e1,e2,e3⟩:=jxj (st:=σ.2.1) σ.1 hmv (by omega) (by omega) (goal:=cp σ.2.1.length fun i=>qk (n.2.1.getD k ab.z) (gg σ i)) (jd6 _ _);rw[cond_true,e1,ao,j2n g (by omega),ao];have hg:(!g.any fun y=>false==y)=true↔∀i,i<σ.2.1.length→∃j,Way σ.2.2 i j∧j<σ.2.1.length∧qk (n.2.1.getD k ab.z) (gg σ j)=true:=by
      rw[Bool.not_eq_true',List.any_eq_false];constructor
      ·intro hx i hi;have h1:=hx _ (bm (l:=g) false (show i<g.length by omega));have h2:g.getD i false=true:=by revert h1;cases g.getD i false<;>simp
       obtain⟨j,hw,hj⟩:=(e3 i hi).1 h2;by_cases hjl:j<σ.2.1.length
       ·rw[jd5 hjl]at hj;exact⟨j,hw,hjl,hj⟩
       ·rw[List.getD_eq_getElem?_getD,List.getElem?_eq_none (by rw[jd6];omega)]at hj;cases hj
      ·intro hx y hy;obtain⟨i,hi,rfl⟩:=qrr false hy;obtain⟨j,hw,hj,hc⟩:=hx i (by omega);have h2:=(e3 i (by omega)).2 ⟨j,hw,by rw[jd5 hj];exact hc⟩;rw[h2]
       decide
     refine fin _ (hg.trans ⟨fun hx t ht=> ?_,fun hx=>hx k (by omega)⟩);by_cases e:t=k
     ·rw[e];exact hx
     ·exact hall.1 rfl t (by omega)
   ·rw[qe8 (by omega)];have e:k=n.2.1.length:=by omega
    exact⟨_,rfl,all,rfl,by rw[←e];exact hall⟩)
 exact⟨b,ho,hb⟩
end
theorem qyh(n:dj)(m:List Int):u6 n m=some true:=by
 unfold u6;rw[jv4];obtain⟨b,hb,hg⟩:=j22 n;simp only[ao,Bool.not_true,cond_false];rw[hb,ao];cases b with
 |true=>rfl
 |false=>
  obtain⟨h,_,hpl⟩:=hg rfl;rw[cond_false];by_cases hml:(60:Int)<(m.length:Int)
  ·rw[qpi hml]
  rw[qe8 (by omega),jim h,ao];have hml' :m.length≤1000000:=by omega
  cases hv:n5 n with
  |false=>rfl
  |true=>
   simp only[Bool.not_true,cond_false];rw[qx5 n m hml',ao];cases hk:l4 n.1 m with
   |false=>rfl
   |true=>
    simp only[Bool.not_true,cond_false];have hVN:=q2q hv;have hn:n.1=((n.1.toNat:Nat):Int):=by omega
    have e1:=jtg n n.1.toNat hn (by omega) h hv m hk hml';have u1:=j65 (ts:=n.2.1) h.trans h.ins n.1.toNat (by omega) n.2.2.1 n.2.2.2.1;have i1:=j0u (ts:=n.2.1) h.trans h.ins n.1 n.2.2.1 n.2.2.2.1;rw[←hn]at u1;have i1:ju n=_:=i1;have u1:qbw n=_:=u1;unfold qsn;rw[jlf h,hv,ao,juh n m hml',hk,ao,i1,ao,u1];simp only[Bool.not_true,cond_false];cases hf:jp1 n.2.1 with
    |false=>rfl
    |true=>
     simp only[Bool.not_true,cond_false];rw[ao];cases hu:(List.range n.1.toNat).all fun p=>jvr n.2.1 (p:Int)with
     |false=>rfl
     |true=>
      simp only[Bool.not_true,cond_false];rw[e1,ao,ao];have hcom:=j2m h hv hk hf hu (by omega);have key:∀(lv:Bool) (l:List Int),l.length≤1000000→(lv==decide ((l.length:Int)=0))=true→(∀x∈l,0≤x∧x<n.1)→q9 n.2.1 false l→(lv=true↔jx7 n (mkF m))→
        (bif (!(lv==decide ((l.length:Int)=0)))then some false else
         bnd (fm l n) fun r6=>
         bif r6 then some false else
          bnd (rg m lv n.2.1 (n.2.1.length:Int) n.1 n.2.1 n.2.2.1 n.2.2.2.1 l 0) fun oe9=>
          lk oe9 (fun _=>
           bnd (qg1 n m) fun r10=>
           bif (!r10.2.1)then some true else
            bnd (rh lv (n.2.1.length:Int) n.1 n.2.1 n.2.2.1 n.2.2.2.1 r10.1.1 r10.1.2.1 r10.1.2.2.1 (true,0)) fun oe16=>
            lk oe16 (fun e16=>some (lv==e16)) (fun r=>some r)) (fun r=>some r))=some true:=fun lv l hl h1 h2 h3 h4=>by
       have hany:(l.any fun p=>decide (p<0)||decide (n.1≤p))=false:=List.any_eq_false.2 fun x hx=>by
        have:=h2 x hx;rw[Bool.or_eq_true,decide_eq_true_iff,decide_eq_true_iff];omega
       rw[h1];simp only[Bool.not_true,cond_false];rw[j40 l n hl,ao,hany,cond_false,jxr h m l hl lv h3,ao,i6];obtain⟨s,w,x,e2,e3⟩:=jv8 h hv hk;rw[e2,ao];cases w with
       |false=>rfl
       |true=>
        obtain⟨rfl,hfull⟩:=e3 rfl;have P:=j4n (M:=400) hk (by omega);obtain⟨b,e4,e5⟩:=zag h hv P lv;simp only[Bool.not_true,cond_false];rw[e4,ao,i6];have e6:lv=b:=by
         rw[Bool.eq_iff_iff];exact h4.trans ((j3j h hv P hfull).trans e5.symm)
        rw[e6];simp
      rcases hcom with⟨ec,hL⟩|⟨k,hk2,hmin,ec,hL⟩
      ·rw[ec];exact key true [] (Nat.zero_le _) rfl (fun x hx=>by cases hx) (qd2.2 fun t _ ⟨p,_,hp⟩=>by cases hp) ⟨fun _=>hL,fun _=>rfl⟩
      ·rw[ec];have hmin2:=hmin;unfold q58 at hmin2;rw[Bool.and_eq_true,Bool.and_eq_true,decide_eq_true_iff]at hmin2;have hne:=jyh hmin2.1 hk2;have hbl:=q41 n.1.toNat k;refine key false (jz n.1.toNat k) (by omega) ?_ (fun x hx=> ?_) hmin2.2.2 ⟨fun h=>(by cases h),fun h=>absurd h hL⟩
       ·have h0:(jz n.1.toNat k).length≠0:=fun h0=>hne (List.eq_nil_of_length_eq_zero h0)
        rw[decide_eq_false (by omega)];rfl
       ·obtain⟨p,hp,_,rfl⟩:=qko.1 hx;omega
end Go.Proofs.YtclbndfjhjladaaGreat
