/-
  Predict: Fastest, Slowest and Must of program and reference agree.
-/
import Derived.Test.YtokeielgplbdeaaZ6C8
set_option linter.all false
namespace Go.Proofs.Ytokeielgplbdeaa
open Go.K Go.M
section
variable {n : c9} {m : List Int} {M : Nat} {σ : p2} {N g : Nat} {nE : List Eg} {c : Mk} {ts : List af} {sl : Bool} {d : pz}
theorem jsk{TT:Nat}(hts:c8 ts TT=true):Wt (fun t=>ja t ts) (i5 ts false) TT:=by
 refine⟨fun t ht=> ?_,fun t ht=>n8 hts false t (by rw[gq hts];exact ht)⟩;have:=gq hts;unfold ja;simp(disch:=omega)only[Int.toNat_natCast,rs];rfl
theorem jsl{TT:Nat}(hts:c8 ts TT=true):Wt (fun t=>jb t ts) (i5 ts true) TT:=by
 refine⟨fun t ht=> ?_,fun t ht=>n8 hts true t (by rw[gq hts];exact ht)⟩;have:=gq hts;unfold jb;simp(disch:=omega)only[Int.toNat_natCast,rs];rfl
abbrev px(l:List Eg):List Int:=l.map fun e=>(e.2.2:Int)
structure WayOK (nE : List Eg) (g : Nat) (ts : List af) (sl : Bool) (v : xr) (l : List Eg) : Prop where
 wk : IsW (fun e => e ∈ nE) 0 l g
 wt : zx (i5 ts sl) l = v.1
 len : l.length ≤ 100
 stp : (l.length : Int) = v.2
end
theorem q54{n:c9}{m:List Int}{ts:List af}{most:Int}{e:Int}(he:e≠0)(h1:bc n m ts most=some ([],0,0,e)):ff n m ts most=some (e,[]):=by
 unfold ff;simp(disch:=omega)only[h1,decide_eq_false he,Bool.not_false,rs]
theorem q10{n:c9}{m:List Int}{ts:List af}{most:Int}{M:List (Int×List ab)}{g N:Int}(h1:bc n m ts most=some (M,g,N,0))(hr:∃x,aq M g N=some (x,false)):ff n m ts most=some (10,[]):=by
 obtain⟨x,hx⟩:=hr;unfold ff;simp(disch:=omega)only[h1,hx,Bool.not_false,rs]
theorem q5e{n:c9}{m:List Int}{ts:List af}{most:Int}{σ:p2}{N g:Nat}{nE:List Eg}{c:Mk}(hG:GG n m most.toNat σ N g nE c)(hts:c8 ts n.2.1.length=true)(h1:bc n m ts most=some (gEs c nE,(g:Int),(N:Int),0))(hr:∃x,aq (gEs c nE) (g:Int) (N:Int)=some (x,true))(h2:b7 n m ts most=some (rGr σ N g nE c,0))
  {d:pz} {v:xr} (hd:DistOK σ N g nE c n.2.1.length ts false d) (hv:d 0=some v):∃l,WayOK nE g ts false v l∧ff n m ts most=some (0,px l)∧qjk n m ts most=some (0,px l):=by
 obtain⟨x,hx⟩:=hr;obtain⟨l,l1,l2,l3,l4,l5,l6⟩:=q0i hG hts hd hv (jsk hts);refine⟨l,⟨l1,l2,l3,l4⟩,?_,?_⟩
 ·unfold ff;simp only[jie];simp(disch:=omega)only[h1,hx,l5,Bool.not_true,rs]
 ·unfold qjk;simp(disch:=omega)only[h2,l6,Bool.not_true,rs]
theorem qu2{n:c9}{m:List Int}{ts:List af}{most:Int}{e:Int}(he:e≠0)(h1:bc n m ts most=some ([],0,0,e)):c6 n m ts most=some (e,[]):=by
 unfold c6;simp(disch:=omega)only[h1,decide_eq_false he,Bool.not_false,rs]
theorem qso{n:c9}{m:List Int}{ts:List af}{most:Int}{M:List (Int×List ab)}{g N:Int}(h1:bc n m ts most=some (M,g,N,0))(hr:∃x,aq M g N=some (x,false)):c6 n m ts most=some (10,[]):=by
 obtain⟨x,hx⟩:=hr;unfold c6;simp(disch:=omega)only[h1,hx,Bool.not_false,rs]
theorem qu6{n:c9}{m:List Int}{ts:List af}{most:Int}{e:Int}(he:e≠0)(h1:b7 n m ts most=some (zG,e)):j2 n m ts most=some (e,[]):=by
 unfold j2;simp(disch:=omega)only[h1,decide_eq_false he,Bool.not_false,rs]
theorem qzy{n:c9}{m:List Int}{ts:List af}{most:Int}{σ:p2}{N g:Nat}{nE:List Eg}{c:Mk}(h1:bc n m ts most=some (gEs c nE,(g:Int),(N:Int),0))(hr:∃x,aq (gEs c nE) (g:Int) (N:Int)=some (x,true))(h2:b7 n m ts most=some (rGr σ N g nE c,0))(h3:cr (gEs c nE) (g:Int) (N:Int) ts=some true)(h4:fw (rGr σ N g nE c) ts=some true):c6 n m ts most=some (18,[])∧j2 n m ts most=some (18,[]):=by
 obtain⟨x,hx⟩:=hr;constructor
 ·unfold c6;simp(disch:=omega)only[h1,hx,h3,Bool.not_true,rs]
 ·unfold j2;simp(disch:=omega)only[h2,h4,Bool.not_true,rs]
theorem qva{n:c9}{m:List Int}{ts:List af}{most:Int}{σ:p2}{N g:Nat}{nE:List Eg}{c:Mk}(hG:GG n m most.toNat σ N g nE c)(hts:c8 ts n.2.1.length=true)(h1:bc n m ts most=some (gEs c nE,(g:Int),(N:Int),0))(hr:∃x,aq (gEs c nE) (g:Int) (N:Int)=some (x,true))(h2:b7 n m ts most=some (rGr σ N g nE c,0))
  (h3:cr (gEs c nE) (g:Int) (N:Int) ts=some false) (h4:fw (rGr σ N g nE c) ts=some false)
  {d:pz} {v:xr} (hd:DistOK σ N g nE c n.2.1.length ts true d) (hv:d 0=some v):∃l,WayOK nE g ts true v l∧c6 n m ts most=some (0,px l)∧j2 n m ts most=some (0,px l):=by
 obtain⟨x,hx⟩:=hr;obtain⟨l,l1,l2,l3,l4,l5,l6⟩:=q0i hG hts hd hv (jsl hts);refine⟨l,⟨l1,l2,l3,l4⟩,?_,?_⟩
 ·unfold c6;simp only[jif];simp(disch:=omega)only[h1,hx,h3,l5,Bool.not_true,rs]
 ·unfold j2;simp(disch:=omega)only[h2,h4,l6,Bool.not_true,rs]
theorem q6f{n:c9}{m:List Int}{ts:List af}{most:Int}(h:Res n m ts most):∃e l,c6 n m ts most=some (e,l)∧j2 n m ts most=some (e,l)∧l.length≤100:=by
 cases h with
 |err e he h1 h2=>exact⟨e,[],qu2 he h1,qu6 he h2,by simp⟩
 |none M g N h1 hr h2=>exact⟨10,[],qso h1 hr,qu6 (by decide) h2,by simp⟩
 |ok σ N g nE c hG hc hv hm hts h1 hr h2=>
  obtain⟨B,hB⟩:=qwm hG hc hts;cases hB with
  |opn dF v hF h0 ho h3 h4=>
   obtain⟨a1,a2⟩:=qzy h1 hr h2 h3 h4;exact⟨18,[],a1,a2,by simp⟩
  |cls dF dS v u hF h0 ho h3 h4 hS h5=>
   obtain⟨l,hl,a1,a2⟩:=qva hG hts h1 hr h2 h3 h4 hS h5;exact⟨0,_,a1,a2,by rw[List.length_map];exact hl.len⟩
noncomputable def qd3(L:List Eg)(g t:Nat):Bool:= @decide (qt (EN t L) 0 g) (Classical.propDecidable _)
theorem qh0{L:List Eg}{g t:Nat}:qd3 L g t=true↔qt (EN t L) 0 g:=by
 unfold qd3;exact @decide_eq_true_iff _ (Classical.propDecidable _)
noncomputable def tc(L:List Eg)(g T:Nat):List Int:=((List.range T).filter fun t=> !qd3 L g t).map fun(t:Nat)=>(t:Int)
theorem qrp(L:List Eg)(g T:Nat):tc L g (T+1)=bif qd3 L g T then tc L g T else tc L g T++[(T:Int)]:=by
 unfold tc;rw[List.range_succ,List.filter_append,List.map_append];cases h:qd3 L g T with
 |true=>rw[List.filter_cons_of_neg (by simp[h])];simp
 |false=>rw[List.filter_cons_of_pos (by simp[h])];rfl
theorem qh7(L:List Eg)(g T:Nat):(tc L g T).length≤T:=by
 unfold tc;rw[List.length_map];have:=List.length_filter_le (fun t=> !qd3 L g t) (List.range T);rwa[List.length_range]at this
theorem q5z{L:List Eg}{g T:Nat}{x:Int}:x∈tc L g T↔∃t:Nat,x=(t:Int)∧t<T∧¬qt (EN t L) 0 g:=by
 unfold tc;constructor
 ·intro h;obtain⟨t,h1,rfl⟩:=List.mem_map.1 h;obtain⟨h2,h3⟩:=List.mem_filter.1 h1;refine⟨t,rfl,List.mem_range.1 h2,fun hr=> ?_⟩;rw[qh0.2 hr]at h3;cases h3
 ·rintro⟨t,rfl,h1,h2⟩;refine List.mem_map.2 ⟨t,List.mem_filter.2 ⟨List.mem_range.2 h1,?_⟩,rfl⟩;cases hb:qd3 L g t with
  |true=>exact absurd (qh0.1 hb) h2
  |false=>rfl
theorem q3m{E E' :Eg→Prop}:∀{l:List Eg} {i j:Nat},IsW E i l j→IsW E' i l j→IsW (fun e=>E e∧E' e) i l j
 |[],_,_,h,_=>h
 |_::_,_,_,⟨h1,h2,h3⟩,⟨_,h5,h6⟩=>⟨h1,⟨h2,h5⟩,q3m h3 h6⟩
theorem q4z{n:c9}{m:List Int}{M:Nat}{σ:p2}{N g:Nat}{nE:List Eg}{c:Mk}(h:GG n m M σ N g nE c)(t:Nat):qt (EN t (ph c nE)) 0 g↔qt (EP (va (t:Int)) nE) 0 g:=by
 constructor
 ·exact qt.mono fun e he=>⟨qq1 he.1,by
   have:=he.2;unfold va;rw[decide_eq_false (by omega)];rfl⟩
 ·rintro⟨l,hl⟩;have h1:=(h.path (hl.mono fun e he=>he.1) h.cg).1;refine⟨l,(q3m h1 hl).mono fun e he=>⟨he.1,fun h2=> ?_⟩⟩;have h3:=he.2.2;unfold va at h3;rw[decide_eq_true (by omega)]at h3;cases h3
theorem qsh{n:c9}{m:List Int}{M:Nat}{σ:p2}{N g:Nat}{nE:List Eg}{c:Mk}(h:GG n m M σ N g nE c)(T:Nat)(hT:T≤100000):qfm (T:Int) (gEs c nE) (g:Int) (N:Int) (0,[])=some (.inl (tc (ph c nE) g T)):=by
 refine iw (fun k:Nat=>((k:Int),tc (ph c nE) g k)) T (bm (by omega)) _ (fun k hk=> ?_) ?_ _ (by rfl)
 ·obtain⟨b,hb,hb2⟩:=q2n h.gl' (q0s (ph c nE)) k g h.pos (N:Int);have hbe:b=qd3 (ph c nE) g k:=by rw[Bool.eq_iff_iff,hb2,qh0]
  have hlen:=qh7 (ph c nE) g k;rw[qrp,←hbe];cases b with
  |true=>
   simp(disch:=omega)only[me,hb,Bool.not_true,aj,rs]
  |false=>
   simp(disch:=omega)only[me,hb,Bool.not_false,aj,rs]
 ·simp(disch:=omega)only[me,rs]
theorem q19{n:c9}{m:List Int}{M:Nat}{σ:p2}{N g:Nat}{nE:List Eg}{c:Mk}(h:GG n m M σ N g nE c)(a b d:Int)(can:List Bool):qml a n.2.1 b d σ.2.1 (nE.map cm) σ.1 (g:Int) can (0,[])=some (.inl (tc (ph c nE) g n.2.1.length)):=by
 have htr:=h.tr;have hlen2:=h.len;have hN:=h.pos;refine iw (fun k:Nat=>((k:Int),tc (ph c nE) g k)) n.2.1.length (bm (by omega)) _ (fun k hk=> ?_) ?_ _ (by rfl)
 ·obtain⟨c',hb,hb2⟩:=qvo (N:=N) (TT:=n.2.1.length) (g:=g) (by omega) h.gl nE h.good (by omega) (k:Int) σ.2.1 h.eN.symm σ.1;have hbe:c' 0=qd3 (ph c nE) g k:=by rw[Bool.eq_iff_iff,hb2 0,qh0,q4z h]
  have h0:(fl N c').getD 0 false=c' 0:=td hN;have hlb:=xa N c';have hlen:=qh7 (ph c nE) g k;rw[qrp,←hbe];cases hc:c' 0 with
  |true=>
   rw[hc]at h0;simp(disch:=omega)only[wc,hb,h0,Bool.not_true,aj,rs]
  |false=>
   rw[hc]at h0;simp(disch:=omega)only[wc,hb,h0,Bool.not_false,aj,rs]
 ·simp(disch:=omega)only[wc,rs]
inductive MustR (n : c9) (m : List Int) (most : Int) : Prop
 | err (e : Int) (he : e ≠ 0) (h1 : ge n m most = some (e, [])) (h2 : rh n m most = some (e, []))
 | ok (σ : p2) (N g : Nat) (nE : List Eg) (c : Mk) (hG : GG n m most.toNat σ N g nE c) (hc : c 0 = true) (h1 : ge n m most = some (0, tc (ph c nE) g n.2.1.length)) (h2 : rh n m most = some (0, tc (ph c nE) g n.2.1.length))
theorem q8l{n:c9}(h:Small n)(htr:n.2.1.length≤20){m:List Int}(hl:m.length≤1000){most:Int}(hmost:¬(100<most∧most≤2000)):MustR n m most:=by
 have hV:=qgg h;have ho:=q9b n.2.1.length htr;have hlo:(qr0 n.2.1.length).length=n.2.1.length:=List.length_replicate;have hg:=qq2 h htr hl (ts:=qr0 n.2.1.length) (by omega) most;rw[q1w]at hg;have hg:bc n m (qr0 n.2.1.length) most=aw n m most:=hg;have key:∀e:Int,e≠0→aw n m most=some ([],0,0,e)→b7 n m (qr0 n.2.1.length) most=some (zG,e)→MustR n m most:=fun e he h1 h2=>by
  refine .err e he ?_ ?_
  ·unfold ge;cases hv:de n with
   |true=>
    rw[hv]at hV;simp(disch:=omega)only[hV,h1,decide_eq_false he,Bool.not_true,Bool.not_false,rs]
   |false=>
    rw[hv]at hV;have hE:=u4 h m (by omega);rw[hv]at hE;have he' :aw n m most=some ([],0,0,1):=by
     unfold aw;simp(disch:=omega)only[hE,Bool.false_and,rs]
    rw[he']at h1;cases h1;simp(disch:=omega)only[hV,Bool.not_false,rs]
  ·unfold rh;simp(disch:=omega)only[ho,h2,decide_eq_false he,Bool.not_false,rs]
 cases res h htr hl (ts:=qr0 n.2.1.length) (by omega) hmost with
 |err e he h1 h2=>exact key e he (hg.symm.trans h1) h2
 |none M g N h1 hr h2=>
  have hv:de n=true:=by
   cases hv:de n with
   |true=>rfl
   |false=>
    have hE:=u4 h m (by omega);rw[hv]at hE;have he' :aw n m most=some ([],0,0,1):=by
     unfold aw;simp(disch:=omega)only[hE,Bool.false_and,rs]
    rw[hg,he']at h1;cases h1
  rw[hv]at hV;rw[hg]at h1;obtain⟨x,hx⟩:=hr;refine .err 10 (by decide) ?_ ?_
  ·unfold ge;simp(disch:=omega)only[hV,h1,hx,Bool.not_true,Bool.not_false,rs]
  ·unfold rh;simp(disch:=omega)only[ho,h2,Bool.not_false,rs]
 |ok σ N g nE c hG hc hv hm hts h1 hr h2=>
  rw[hv]at hV;rw[hg]at h1;obtain⟨x,hx⟩:=hr;have hL1:=qsh hG n.2.1.length (by omega);have hL2:=q19 hG n.1 n.2.2.1 n.2.2.2.1 (fl N c);refine .ok σ N g nE c hG hc ?_ ?_
  ·unfold ge;simp(disch:=omega)only[hV,h1,hx,hL1,Bool.not_true,rs]
  ·unfold rh;simp(disch:=omega)only[ho,h2,hL2,Bool.not_true,rs]
theorem q50{n:c9}(h:Small n)(htr:n.2.1.length≤20){m:List Int}(hl:m.length≤1000){most:Int}(hmost:¬(100<most∧most≤2000)):∃e l,ge n m most=some (e,l)∧rh n m most=some (e,l)∧l.length≤100:=by
 cases q8l h htr hl hmost with
 |err e he h1 h2=>exact⟨e,[],h1,h2,by simp⟩
 |ok σ N g nE c hG hc h1 h2=>exact⟨0,_,h1,h2,by have:=qh7 (ph c nE) g n.2.1.length;omega⟩
abbrev aN:c9:=(3,[(⟨#[97]⟩,[0],[1],()),(⟨#[98]⟩,[1],[2],()),(⟨#[99]⟩,[1],[2],())],0,2,())
abbrev aT:List af:=[(2,5,false,()),(1,1,false,()),(4,9,false,())]
theorem qx7:Small aN:=⟨by decide,by decide,by decide⟩
theorem jpq:kq aN [1,0,0] aT 10=some ((3,14,false,()),0):=by kernel_rfl
theorem jio:j2 aN [1,0,0] aT 10=some (0,[0,2]):=by kernel_rfl
theorem jin:rh aN [1,0,0] 10=some (0,[0]):=by kernel_rfl
theorem qqj:wy=some true:=by
 have hr:=res (most:=10) qx7 (by decide) (m:=[1,0,0]) (by decide) (ts:=aT) (by decide) (by omega);obtain⟨B,e,a1,a2,_⟩:=q87 hr;rw[jpq]at a2;cases a2;obtain⟨e2,l2,b1,b2,_⟩:=q6f hr;rw[jio]at b2;cases b2;obtain⟨e3,l3,c1,c2,_⟩:=q50 (most:=10) qx7 (by decide) (m:=[1,0,0]) (by decide) (by omega);rw[jin]at c2;cases c2;have a1' :tj 3 [(⟨#[97]⟩,[0],[1],()),(⟨#[98]⟩,[1],[2],()),(⟨#[99]⟩,[1],[2],())] 0 2 [1,0,0] [(2,5,false,()),(1,1,false,()),(4,9,false,())] 10=some ((3,14,false,()),0):=a1;have b1' :xz 3 [(⟨#[97]⟩,[0],[1],()),(⟨#[98]⟩,[1],[2],()),(⟨#[99]⟩,[1],[2],())] 0 2 [1,0,0] [(2,5,false,()),(1,1,false,()),(4,9,false,())] 10=some (0,[0,2]):=b1;have c1' :qej 3 [(⟨#[97]⟩,[0],[1],()),(⟨#[98]⟩,[1],[2],()),(⟨#[99]⟩,[1],[2],())] 0 2 [1,0,0] 10=some (0,[0]):=c1;have e1:bv [0,2] [0,2]=some true:=by kernel_rfl
 have e2:bv [0] [0]=some true:=by kernel_rfl
 unfold wy;rw[a1',b1',c1'];simp(disch:=omega)only[e1,e2,rs];rfl
end Go.Proofs.Ytokeielgplbdeaa
