/-
  Predict: Fastest, Slowest and Must of program and reference agree.
-/
import Derived.Test.YtokeielgplbdeaaZ7C8
set_option linter.all false
namespace Go.Proofs.Ytokeielgplbdeaa
open Go.K Go.M
section
variable {n : cz} {m : List Int} {M : Nat} {σ : sc} {N g : Nat} {nE : List Eg} {c : Mk} {ts : List af} {sl : Bool} {d : p8}
theorem jvh{TT:Nat}(hts:dk ts TT=true):Wt (fun t=>iz t ts) (k6 ts true) TT:=by
 refine⟨fun t ht=> ?_,fun t ht=>xc hts true t (by rw[j5 hts];exact ht)⟩;have:=j5 hts;unfold iz;simp(disch:=omega)only[Int.toNat_natCast,rs];rfl
abbrev jn9(l:List Eg):List Int:=l.map fun e=>(e.2.2:Int)
structure WayOK (nE : List Eg) (g : Nat) (ts : List af) (sl : Bool) (v : x9) (l : List Eg) : Prop where
 wk : IsW (fun e => e ∈ nE) 0 l g
 wt : wtL (k6 ts sl) l = v.1
 len : l.length ≤ 100
 stp : (l.length : Int) = v.2
end
theorem q83{n:cz}{m:List Int}{ts:List af}{most:Int}{e:Int}(he:e≠0)(h1:br n m ts most=some ([],0,0,e)):ec n m ts most=some (e,[]):=by
 unfold ec;simp(disch:=omega)only[h1,decide_eq_false he,Bool.not_false,rs]
theorem q4z{n:cz}{m:List Int}{ts:List af}{most:Int}{M:List (Int×List ab)}{g N:Int}(h1:br n m ts most=some (M,g,N,0))(hr:∃x,a8 M g N=some (x,false)):ec n m ts most=some (10,[]):=by
 obtain⟨x,hx⟩:=hr;unfold ec;simp(disch:=omega)only[h1,hx,Bool.not_false,rs]
theorem qxt{n:cz}{m:List Int}{ts:List af}{most:Int}{e:Int}(he:e≠0)(h1:ce n m ts most=some (zG,e)):jz n m ts most=some (e,[]):=by
 unfold jz;simp(disch:=omega)only[h1,decide_eq_false he,Bool.not_false,rs]
theorem jci{n:cz}{m:List Int}{ts:List af}{most:Int}{σ:sc}{N g:Nat}{nE:List Eg}{c:Mk}(h1:br n m ts most=some (gEs c nE,(g:Int),(N:Int),0))(hr:∃x,a8 (gEs c nE) (g:Int) (N:Int)=some (x,true))(h2:ce n m ts most=some (rGr σ N g nE c,0))(h3:ct (gEs c nE) (g:Int) (N:Int) ts=some true)(h4:ed (rGr σ N g nE c) ts=some true):ec n m ts most=some (18,[])∧jz n m ts most=some (18,[]):=by
 obtain⟨x,hx⟩:=hr;constructor
 ·unfold ec;simp(disch:=omega)only[h1,hx,h3,Bool.not_true,rs]
 ·unfold jz;simp(disch:=omega)only[h2,h4,Bool.not_true,rs]
theorem q9e{n:cz}{m:List Int}{ts:List af}{most:Int}{σ:sc}{N g:Nat}{nE:List Eg}{c:Mk}(hG:GG n m most.toNat σ N g nE c)(hts:dk ts n.2.1.length=true)(h1:br n m ts most=some (gEs c nE,(g:Int),(N:Int),0))(hr:∃x,a8 (gEs c nE) (g:Int) (N:Int)=some (x,true))(h2:ce n m ts most=some (rGr σ N g nE c,0))
  (h3:ct (gEs c nE) (g:Int) (N:Int) ts=some false) (h4:ed (rGr σ N g nE c) ts=some false)
  {d:p8} {v:x9} (hd:DistOK σ N g nE c n.2.1.length ts true d) (hv:d 0=some v):∃l,WayOK nE g ts true v l∧ec n m ts most=some (0,jn9 l)∧jz n m ts most=some (0,jn9 l):=by
 obtain⟨x,hx⟩:=hr;obtain⟨l,l1,l2,l3,l4,l5,l6⟩:=jcr hG hts hd hv (jvh hts);refine⟨l,⟨l1,l2,l3,l4⟩,?_,?_⟩
 ·unfold ec;simp only[jlc];simp(disch:=omega)only[h1,hx,h3,l5,Bool.not_true,rs]
 ·unfold jz;simp(disch:=omega)only[h2,h4,l6,Bool.not_true,rs]
theorem q9f{n:cz}{m:List Int}{ts:List af}{most:Int}(h:Res n m ts most):∃e l,ec n m ts most=some (e,l)∧jz n m ts most=some (e,l)∧l.length≤100:=by
 cases h with
 |err e he h1 h2=>exact⟨e,[],q83 he h1,qxt he h2,by simp⟩
 |none M g N h1 hr h2=>exact⟨10,[],q4z h1 hr,qxt (by decide) h2,by simp⟩
 |ok σ N g nE c hG hc hv hm hts h1 hr h2=>
  obtain⟨B,hB⟩:=q6q hG hc hts;cases hB with
  |opn dF v hF h0 ho h3 h4=>
   obtain⟨a1,a2⟩:=jci h1 hr h2 h3 h4;exact⟨18,[],a1,a2,by simp⟩
  |cls dF dS v u hF h0 ho h3 h4 hS h5=>
   obtain⟨l,hl,a1,a2⟩:=q9e hG hts h1 hr h2 h3 h4 hS h5;exact⟨0,_,a1,a2,by rw[List.length_map];exact hl.len⟩
noncomputable def qga(L:List Eg)(g t:Nat):Bool:= @decide (qq (EN t L) 0 g) (Classical.propDecidable _)
theorem qwt{L:List Eg}{g t:Nat}:qga L g t=true↔qq (EN t L) 0 g:=by
 unfold qga;exact @decide_eq_true_iff _ (Classical.propDecidable _)
noncomputable def qe2(L:List Eg)(g T:Nat):List Int:=((List.range T).filter fun t=> !qga L g t).map fun(t:Nat)=>(t:Int)
theorem qs9(L:List Eg)(g T:Nat):qe2 L g (T+1)=bif qga L g T then qe2 L g T else qe2 L g T++[(T:Int)]:=by
 unfold qe2;rw[List.range_succ,List.filter_append,List.map_append];cases h:qga L g T with
 |true=>rw[List.filter_cons_of_neg (by simp[h])];simp
 |false=>rw[List.filter_cons_of_pos (by simp[h])];rfl
theorem qnx(L:List Eg)(g T:Nat):(qe2 L g T).length≤T:=by
 unfold qe2;rw[List.length_map];have:=List.length_filter_le (fun t=> !qga L g t) (List.range T);rwa[List.length_range]at this
theorem q6m{E E' :Eg→Prop}:∀{l:List Eg} {i j:Nat},IsW E i l j→IsW E' i l j→IsW (fun e=>E e∧E' e) i l j
 |[],_,_,h,_=>h
 |_::_,_,_,⟨h1,h2,h3⟩,⟨_,h5,h6⟩=>⟨h1,⟨h2,h5⟩,q6m h3 h6⟩
theorem q7y{n:cz}{m:List Int}{M:Nat}{σ:sc}{N g:Nat}{nE:List Eg}{c:Mk}(h:GG n m M σ N g nE c)(t:Nat):qq (EN t (sd c nE)) 0 g↔qq (EP (uq (t:Int)) nE) 0 g:=by
 constructor
 ·exact qq.mono fun e he=>⟨qso he.1,by
   have:=he.2;unfold uq;rw[decide_eq_false (by omega)];rfl⟩
 ·rintro⟨l,hl⟩;have h1:=(h.path (hl.mono fun e he=>he.1) h.cg).1;refine⟨l,(q6m h1 hl).mono fun e he=>⟨he.1,fun h2=> ?_⟩⟩;have h3:=he.2.2;unfold uq at h3;rw[decide_eq_true (by omega)]at h3;cases h3
theorem q4y{n:cz}{m:List Int}{M:Nat}{σ:sc}{N g:Nat}{nE:List Eg}{c:Mk}(h:GG n m M σ N g nE c)(T:Nat)(hT:T≤100000):qe9 (T:Int) (gEs c nE) (g:Int) (N:Int) (0,[])=some (.inl (qe2 (sd c nE) g T)):=by
 refine jl (fun k:Nat=>((k:Int),qe2 (sd c nE) g k)) T (bv (by omega)) _ (fun k hk=> ?_) ?_ _ (by rfl)
 ·obtain⟨b,hb,hb2⟩:=q5o h.gl' (q3r (sd c nE)) k g h.pos (N:Int);have hbe:b=qga (sd c nE) g k:=by rw[Bool.eq_iff_iff,hb2,qwt]
  have hlen:=qnx (sd c nE) g k;rw[qs9,←hbe];cases b with
  |true=>
   simp(disch:=omega)only[pq,hb,Bool.not_true,al,rs]
  |false=>
   simp(disch:=omega)only[pq,hb,Bool.not_false,al,rs]
 ·simp(disch:=omega)only[pq,rs]
theorem q48{n:cz}{m:List Int}{M:Nat}{σ:sc}{N g:Nat}{nE:List Eg}{c:Mk}(h:GG n m M σ N g nE c)(a b d:Int)(can:List Bool):qmu a n.2.1 b d σ.2.1 (nE.map cn) σ.1 (g:Int) can (0,[])=some (.inl (qe2 (sd c nE) g n.2.1.length)):=by
 have htr:=h.tr;have hlen2:=h.len;have hN:=h.pos;refine jl (fun k:Nat=>((k:Int),qe2 (sd c nE) g k)) n.2.1.length (bv (by omega)) _ (fun k hk=> ?_) ?_ _ (by rfl)
 ·obtain⟨c',hb,hb2⟩:=qya (N:=N) (TT:=n.2.1.length) (g:=g) (by omega) h.gl nE h.good (by omega) (k:Int) σ.2.1 h.eN.symm σ.1;have hbe:c' 0=qga (sd c nE) g k:=by rw[Bool.eq_iff_iff,hb2 0,qwt,q7y h]
  have h0:(fl N c').getD 0 false=c' 0:=sr hN;have hlb:=wg N c';have hlen:=qnx (sd c nE) g k;rw[qs9,←hbe];cases hc:c' 0 with
  |true=>
   rw[hc]at h0;simp(disch:=omega)only[vq,hb,h0,Bool.not_true,al,rs]
  |false=>
   rw[hc]at h0;simp(disch:=omega)only[vq,hb,h0,Bool.not_false,al,rs]
 ·simp(disch:=omega)only[vq,rs]
inductive MustR (n : cz) (m : List Int) (most : Int) : Prop
 | err (e : Int) (he : e ≠ 0) (h1 : n8 n m most = some (e, [])) (h2 : qw n m most = some (e, []))
 | ok (σ : sc) (N g : Nat) (nE : List Eg) (c : Mk) (hG : GG n m most.toNat σ N g nE c) (hc : c 0 = true) (h1 : n8 n m most = some (0, qe2 (sd c nE) g n.2.1.length)) (h2 : qw n m most = some (0, qe2 (sd c nE) g n.2.1.length))
theorem jbn{n:cz}(h:Small n)(htr:n.2.1.length≤20){m:List Int}(hl:m.length≤1000){most:Int}(hmost:¬(100<most∧most≤2000)):MustR n m most:=by
 have hV:=qf7 h;have ho:=q2w n.2.1.length htr;have hlo:(qe3 n.2.1.length).length=n.2.1.length:=List.length_replicate;have hg:=qsp h htr hl (ts:=qe3 n.2.1.length) (by omega) most;rw[qtj]at hg;have hg:br n m (qe3 n.2.1.length) most=aw n m most:=hg;have key:∀e:Int,e≠0→aw n m most=some ([],0,0,e)→ce n m (qe3 n.2.1.length) most=some (zG,e)→MustR n m most:=fun e he h1 h2=>by
  refine .err e he ?_ ?_
  ·unfold n8;cases hv:d9 n with
   |true=>
    rw[hv]at hV;simp(disch:=omega)only[hV,h1,decide_eq_false he,Bool.not_true,Bool.not_false,rs]
   |false=>
    rw[hv]at hV;have hE:=ot h m (by omega);rw[hv]at hE;have he' :aw n m most=some ([],0,0,1):=by
     unfold aw;simp(disch:=omega)only[hE,Bool.false_and,rs]
    rw[he']at h1;cases h1;simp(disch:=omega)only[hV,Bool.not_false,rs]
  ·unfold qw;simp(disch:=omega)only[ho,h2,decide_eq_false he,Bool.not_false,rs]
 cases res h htr hl (ts:=qe3 n.2.1.length) (by omega) hmost with
 |err e he h1 h2=>exact key e he (hg.symm.trans h1) h2
 |none M g N h1 hr h2=>
  have hv:d9 n=true:=by
   cases hv:d9 n with
   |true=>rfl
   |false=>
    have hE:=ot h m (by omega);rw[hv]at hE;have he' :aw n m most=some ([],0,0,1):=by
     unfold aw;simp(disch:=omega)only[hE,Bool.false_and,rs]
    rw[hg,he']at h1;cases h1
  rw[hv]at hV;rw[hg]at h1;obtain⟨x,hx⟩:=hr;refine .err 10 (by decide) ?_ ?_
  ·unfold n8;simp(disch:=omega)only[hV,h1,hx,Bool.not_true,Bool.not_false,rs]
  ·unfold qw;simp(disch:=omega)only[ho,h2,Bool.not_false,rs]
 |ok σ N g nE c hG hc hv hm hts h1 hr h2=>
  rw[hv]at hV;rw[hg]at h1;obtain⟨x,hx⟩:=hr;have hL1:=q4y hG n.2.1.length (by omega);have hL2:=q48 hG n.1 n.2.2.1 n.2.2.2.1 (fl N c);refine .ok σ N g nE c hG hc ?_ ?_
  ·unfold n8;simp(disch:=omega)only[hV,h1,hx,hL1,Bool.not_true,rs]
  ·unfold qw;simp(disch:=omega)only[ho,h2,hL2,Bool.not_true,rs]
theorem q8z{n:cz}(h:Small n)(htr:n.2.1.length≤20){m:List Int}(hl:m.length≤1000){most:Int}(hmost:¬(100<most∧most≤2000)):∃e l,n8 n m most=some (e,l)∧qw n m most=some (e,l)∧l.length≤100:=by
 cases jbn h htr hl hmost with
 |err e he h1 h2=>exact⟨e,[],h1,h2,by simp⟩
 |ok σ N g nE c hG hc h1 h2=>exact⟨0,_,h1,h2,by have:=qnx (sd c nE) g n.2.1.length;omega⟩
abbrev aN:cz:=(3,[(⟨#[97]⟩,[0],[1],()),(⟨#[98]⟩,[1],[2],()),(⟨#[99]⟩,[1],[2],())],0,2,())
abbrev aT:List af:=[(2,5,false,()),(1,1,false,()),(4,9,false,())]
theorem q0z:Small aN:=⟨by decide,by decide,by decide⟩
theorem jsn:eb aN [1,0,0] aT 10=some ((3,14,false,()),0):=by kernel_rfl
theorem jll:jz aN [1,0,0] aT 10=some (0,[0,2]):=by kernel_rfl
theorem jlk:qw aN [1,0,0] 10=some (0,[0]):=by kernel_rfl
theorem qk1:zw=some true:=by
 have hr:=res (most:=10) q0z (by decide) (m:=[1,0,0]) (by decide) (ts:=aT) (by decide) (by omega);obtain⟨B,e,a1,a2,_⟩:=qm4 hr;rw[jsn]at a2;cases a2;obtain⟨e2,l2,b1,b2,_⟩:=q9f hr;rw[jll]at b2;cases b2;obtain⟨e3,l3,c1,c2,_⟩:=q8z (most:=10) q0z (by decide) (m:=[1,0,0]) (by decide) (by omega);rw[jlk]at c2;cases c2;have a1' :sw 3 [(⟨#[97]⟩,[0],[1],()),(⟨#[98]⟩,[1],[2],()),(⟨#[99]⟩,[1],[2],())] 0 2 [1,0,0] [(2,5,false,()),(1,1,false,()),(4,9,false,())] 10=some ((3,14,false,()),0):=a1;have b1' :xk 3 [(⟨#[97]⟩,[0],[1],()),(⟨#[98]⟩,[1],[2],()),(⟨#[99]⟩,[1],[2],())] 0 2 [1,0,0] [(2,5,false,()),(1,1,false,()),(4,9,false,())] 10=some (0,[0,2]):=b1;have c1' :qd3 3 [(⟨#[97]⟩,[0],[1],()),(⟨#[98]⟩,[1],[2],()),(⟨#[99]⟩,[1],[2],())] 0 2 [1,0,0] 10=some (0,[0]):=c1;have e1:db [0,2] [0,2]=some true:=by kernel_rfl
 have e2:db [0] [0]=some true:=by kernel_rfl
 unfold zw;rw[a1',b1',c1'];simp(disch:=omega)only[e1,e2,rs];rfl
end Go.Proofs.Ytokeielgplbdeaa
