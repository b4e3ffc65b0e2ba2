/-
  Predict: Fastest, Slowest and Must of program and reference agree.
-/
import Derived.Test.YtokeielgplbdeaaZ3C8
set_option linter.all false
namespace Go.Proofs.Ytokeielgplbdeaa
open Go.K Go.M
section
variable {n : cx} {m : List Int} {M : Nat} {σ : q4} {N g : Nat} {nE : List Eg} {c : Mk} {ts : List af} {sl : Bool} {d : pz}
theorem jwa{TT:Nat}(hts:df ts TT=true):Wt (fun t=>iz t ts) (kj ts false) TT:=by
 refine⟨fun t ht=> ?_,fun t ht=>tw hts false t (by rw[im hts];exact ht)⟩;have:=im hts;unfold iz;simp(disch:=omega)only[Int.toNat_natCast,rs];rfl
theorem jwb{TT:Nat}(hts:df ts TT=true):Wt (fun t=>i4 t ts) (kj ts true) TT:=by
 refine⟨fun t ht=> ?_,fun t ht=>tw hts true t (by rw[im hts];exact ht)⟩;have:=im hts;unfold i4;simp(disch:=omega)only[Int.toNat_natCast,rs];rfl
abbrev jf7(l:List Eg):List Int:=l.map fun e=>(e.2.2:Int)
structure WayOK (nE : List Eg) (g : Nat) (ts : List af) (sl : Bool) (v : x0) (l : List Eg) : Prop where
 wk : IsW (fun e => e ∈ nE) 0 l g
 wt : wtL (kj ts sl) l = v.1
 len : l.length ≤ 100
 stp : (l.length : Int) = v.2
end
theorem q9u{n:cx}{m:List Int}{ts:List af}{most:Int}{e:Int}(he:e≠0)(h1:bi n m ts most=some ([],0,0,e)):fe n m ts most=some (e,[]):=by
 unfold fe;simp(disch:=omega)only[h1,decide_eq_false he,Bool.not_false,rs]
theorem q5p{n:cx}{m:List Int}{ts:List af}{most:Int}{M:List (Int×List ab)}{g N:Int}(h1:bi n m ts most=some (M,g,N,0))(hr:∃x,au M g N=some (x,false)):fe n m ts most=some (10,[]):=by
 obtain⟨x,hx⟩:=hr;unfold fe;simp(disch:=omega)only[h1,hx,Bool.not_false,rs]
theorem qym{n:cx}{m:List Int}{ts:List af}{most:Int}{e:Int}(he:e≠0)(h1:bw n m ts most=some (zG,e)):lb n m ts most=some (e,[]):=by
 unfold lb;simp(disch:=omega)only[h1,decide_eq_false he,Bool.not_false,rs]
theorem q86{n:cx}{m:List Int}{ts:List af}{most:Int}{σ:q4}{N g:Nat}{nE:List Eg}{c:Mk}(hG:GG n m most.toNat σ N g nE c)(hts:df ts n.2.1.length=true)(h1:bi n m ts most=some (gEs c nE,(g:Int),(N:Int),0))(hr:∃x,au (gEs c nE) (g:Int) (N:Int)=some (x,true))(h2:bw n m ts most=some (rGr σ N g nE c,0))
  {d:pz} {v:x0} (hd:DistOK σ N g nE c n.2.1.length ts false d) (hv:d 0=some v):∃l,WayOK nE g ts false v l∧fe n m ts most=some (0,jf7 l)∧lb n m ts most=some (0,jf7 l):=by
 obtain⟨x,hx⟩:=hr;obtain⟨l,l1,l2,l3,l4,l5,l6⟩:=q37 hG hts hd hv (jwa hts);refine⟨l,⟨l1,l2,l3,l4⟩,?_,?_⟩
 ·unfold fe;simp only[jl5];simp(disch:=omega)only[h1,hx,l5,Bool.not_true,rs]
 ·unfold lb;simp(disch:=omega)only[h2,l6,Bool.not_true,rs]
theorem q87{n:cx}{m:List Int}{ts:List af}{most:Int}(h:Res n m ts most):∃e l,fe n m ts most=some (e,l)∧lb n m ts most=some (e,l)∧l.length≤100:=by
 cases h with
 |err e he h1 h2=>exact⟨e,[],q9u he h1,qym he h2,by simp⟩
 |none M g N h1 hr h2=>exact⟨10,[],q5p h1 hr,qym (by decide) h2,by simp⟩
 |ok σ N g nE c hG hc hv hm hts h1 hr h2=>
  obtain⟨d,hd⟩:=q68 hG hts;obtain⟨v,h0⟩:=hd.at0 ((hG.leads 0).1 hc);obtain⟨l,hl,a1,a2⟩:=q86 hG hts h1 hr h2 hd h0;exact⟨0,_,a1,a2,by rw[List.length_map];exact hl.len⟩
theorem q9v{n:cx}{m:List Int}{ts:List af}{most:Int}{e:Int}(he:e≠0)(h1:bi n m ts most=some ([],0,0,e)):c7 n m ts most=some (e,[]):=by
 unfold c7;simp(disch:=omega)only[h1,decide_eq_false he,Bool.not_false,rs]
theorem q5r{n:cx}{m:List Int}{ts:List af}{most:Int}{M:List (Int×List ab)}{g N:Int}(h1:bi n m ts most=some (M,g,N,0))(hr:∃x,au M g N=some (x,false)):c7 n m ts most=some (10,[]):=by
 obtain⟨x,hx⟩:=hr;unfold c7;simp(disch:=omega)only[h1,hx,Bool.not_false,rs]
theorem qyo{n:cx}{m:List Int}{ts:List af}{most:Int}{e:Int}(he:e≠0)(h1:bw n m ts most=some (zG,e)):ge n m ts most=some (e,[]):=by
 unfold ge;simp(disch:=omega)only[h1,decide_eq_false he,Bool.not_false,rs]
theorem jdc{n:cx}{m:List Int}{ts:List af}{most:Int}{σ:q4}{N g:Nat}{nE:List Eg}{c:Mk}(h1:bi n m ts most=some (gEs c nE,(g:Int),(N:Int),0))(hr:∃x,au (gEs c nE) (g:Int) (N:Int)=some (x,true))(h2:bw n m ts most=some (rGr σ N g nE c,0))(h3:ct (gEs c nE) (g:Int) (N:Int) ts=some true)(h4:eb (rGr σ N g nE c) ts=some true):c7 n m ts most=some (18,[])∧ge n m ts most=some (18,[]):=by
 obtain⟨x,hx⟩:=hr;constructor
 ·unfold c7;simp(disch:=omega)only[h1,hx,h3,Bool.not_true,rs]
 ·unfold ge;simp(disch:=omega)only[h2,h4,Bool.not_true,rs]
theorem q96{n:cx}{m:List Int}{ts:List af}{most:Int}{σ:q4}{N g:Nat}{nE:List Eg}{c:Mk}(hG:GG n m most.toNat σ N g nE c)(hts:df ts n.2.1.length=true)(h1:bi n m ts most=some (gEs c nE,(g:Int),(N:Int),0))(hr:∃x,au (gEs c nE) (g:Int) (N:Int)=some (x,true))(h2:bw n m ts most=some (rGr σ N g nE c,0))
  (h3:ct (gEs c nE) (g:Int) (N:Int) ts=some false) (h4:eb (rGr σ N g nE c) ts=some false)
  {d:pz} {v:x0} (hd:DistOK σ N g nE c n.2.1.length ts true d) (hv:d 0=some v):∃l,WayOK nE g ts true v l∧c7 n m ts most=some (0,jf7 l)∧ge n m ts most=some (0,jf7 l):=by
 obtain⟨x,hx⟩:=hr;obtain⟨l,l1,l2,l3,l4,l5,l6⟩:=q37 hG hts hd hv (jwb hts);refine⟨l,⟨l1,l2,l3,l4⟩,?_,?_⟩
 ·unfold c7;simp only[jl6];simp(disch:=omega)only[h1,hx,h3,l5,Bool.not_true,rs]
 ·unfold ge;simp(disch:=omega)only[h2,h4,l6,Bool.not_true,rs]
theorem qys{n:cx}{m:List Int}{ts:List af}{most:Int}(h:Res n m ts most):∃e l,c7 n m ts most=some (e,l)∧ge n m ts most=some (e,l)∧l.length≤100:=by
 cases h with
 |err e he h1 h2=>exact⟨e,[],q9v he h1,qyo he h2,by simp⟩
 |none M g N h1 hr h2=>exact⟨10,[],q5r h1 hr,qyo (by decide) h2,by simp⟩
 |ok σ N g nE c hG hc hv hm hts h1 hr h2=>
  obtain⟨B,hB⟩:=q7i hG hc hts;cases hB with
  |opn dF v hF h0 ho h3 h4=>
   obtain⟨a1,a2⟩:=jdc h1 hr h2 h3 h4;exact⟨18,[],a1,a2,by simp⟩
  |cls dF dS v u hF h0 ho h3 h4 hS h5=>
   obtain⟨l,hl,a1,a2⟩:=q96 hG hts h1 hr h2 h3 h4 hS h5;exact⟨0,_,a1,a2,by rw[List.length_map];exact hl.len⟩
noncomputable def qgt(L:List Eg)(g t:Nat):Bool:= @decide (qp (EN t L) 0 g) (Classical.propDecidable _)
theorem qxp{L:List Eg}{g t:Nat}:qgt L g t=true↔qp (EN t L) 0 g:=by
 unfold qgt;exact @decide_eq_true_iff _ (Classical.propDecidable _)
noncomputable def qfm(L:List Eg)(g T:Nat):List Int:=((List.range T).filter fun t=> !qgt L g t).map fun(t:Nat)=>(t:Int)
theorem qt8(L:List Eg)(g T:Nat):qfm L g (T+1)=bif qgt L g T then qfm L g T else qfm L g T++[(T:Int)]:=by
 unfold qfm;rw[List.range_succ,List.filter_append,List.map_append];cases h:qgt L g T with
 |true=>rw[List.filter_cons_of_neg (by simp[h])];simp
 |false=>rw[List.filter_cons_of_pos (by simp[h])];rfl
theorem qoy(L:List Eg)(g T:Nat):(qfm L g T).length≤T:=by
 unfold qfm;rw[List.length_map];have:=List.length_filter_le (fun t=> !qgt L g t) (List.range T);rwa[List.length_range]at this
theorem q7e{E E' :Eg→Prop}:∀{l:List Eg} {i j:Nat},IsW E i l j→IsW E' i l j→IsW (fun e=>E e∧E' e) i l j
 |[],_,_,h,_=>h
 |_::_,_,_,⟨h1,h2,h3⟩,⟨_,h5,h6⟩=>⟨h1,⟨h2,h5⟩,q7e h3 h6⟩
theorem q8r{n:cx}{m:List Int}{M:Nat}{σ:q4}{N g:Nat}{nE:List Eg}{c:Mk}(h:GG n m M σ N g nE c)(t:Nat):qp (EN t (sj c nE)) 0 g↔qp (EP (uy (t:Int)) nE) 0 g:=by
 constructor
 ·exact qp.mono fun e he=>⟨qto he.1,by
   have:=he.2;unfold uy;rw[decide_eq_false (by omega)];rfl⟩
 ·rintro⟨l,hl⟩;have h1:=(h.path (hl.mono fun e he=>he.1) h.cg).1;refine⟨l,(q7e h1 hl).mono fun e he=>⟨he.1,fun h2=> ?_⟩⟩;have h3:=he.2.2;unfold uy at h3;rw[decide_eq_true (by omega)]at h3;cases h3
theorem q5q{n:cx}{m:List Int}{M:Nat}{σ:q4}{N g:Nat}{nE:List Eg}{c:Mk}(h:GG n m M σ N g nE c)(T:Nat)(hT:T≤100000):qfs (T:Int) (gEs c nE) (g:Int) (N:Int) (0,[])=some (.inl (qfm (sj c nE) g T)):=by
 refine jh (fun k:Nat=>((k:Int),qfm (sj c nE) g k)) T (bv (by omega)) _ (fun k hk=> ?_) ?_ _ (by rfl)
 ·obtain⟨b,hb,hb2⟩:=q6f h.gl' (q4h (sj c nE)) k g h.pos (N:Int);have hbe:b=qgt (sj c nE) g k:=by rw[Bool.eq_iff_iff,hb2,qxp]
  have hlen:=qoy (sj c nE) g k;rw[qt8,←hbe];cases b with
  |true=>
   simp(disch:=omega)only[l9,hb,Bool.not_true,al,rs]
  |false=>
   simp(disch:=omega)only[l9,hb,Bool.not_false,al,rs]
 ·simp(disch:=omega)only[l9,rs]
theorem q50{n:cx}{m:List Int}{M:Nat}{σ:q4}{N g:Nat}{nE:List Eg}{c:Mk}(h:GG n m M σ N g nE c)(a b d:Int)(can:List Bool):qnv a n.2.1 b d σ.2.1 (nE.map cn) σ.1 (g:Int) can (0,[])=some (.inl (qfm (sj c nE) g n.2.1.length)):=by
 have htr:=h.tr;have hlen2:=h.len;have hN:=h.pos;refine jh (fun k:Nat=>((k:Int),qfm (sj c nE) g k)) n.2.1.length (bv (by omega)) _ (fun k hk=> ?_) ?_ _ (by rfl)
 ·obtain⟨c',hb,hb2⟩:=qy6 (N:=N) (TT:=n.2.1.length) (g:=g) (by omega) h.gl nE h.good (by omega) (k:Int) σ.2.1 h.eN.symm σ.1;have hbe:c' 0=qgt (sj c nE) g k:=by rw[Bool.eq_iff_iff,hb2 0,qxp,q8r h]
  have h0:(fk N c').getD 0 false=c' 0:=sx hN;have hlb:=wn N c';have hlen:=qoy (sj c nE) g k;rw[qt8,←hbe];cases hc:c' 0 with
  |true=>
   rw[hc]at h0;simp(disch:=omega)only[qj,hb,h0,Bool.not_true,al,rs]
  |false=>
   rw[hc]at h0;simp(disch:=omega)only[qj,hb,h0,Bool.not_false,al,rs]
 ·simp(disch:=omega)only[qj,rs]
inductive MustR (n : cx) (m : List Int) (most : Int) : Prop
 | err (e : Int) (he : e ≠ 0) (h1 : jw n m most = some (e, [])) (h2 : ni n m most = some (e, []))
 | ok (σ : q4) (N g : Nat) (nE : List Eg) (c : Mk) (hG : GG n m most.toNat σ N g nE c) (hc : c 0 = true) (h1 : jw n m most = some (0, qfm (sj c nE) g n.2.1.length)) (h2 : ni n m most = some (0, qfm (sj c nE) g n.2.1.length))
theorem jcd{n:cx}(h:Small n)(htr:n.2.1.length≤20){m:List Int}(hl:m.length≤1000){most:Int}(hmost:¬(100<most∧most≤2000)):MustR n m most:=by
 have hV:=qlv h;have ho:=jc2 n.2.1.length htr;have hlo:(qui n.2.1.length).length=n.2.1.length:=List.length_replicate;have hg:=q2h h htr hl (ts:=qui n.2.1.length) (by omega) most;rw[q5l]at hg;have hg:bi n m (qui n.2.1.length) most=a8 n m most:=hg;have key:∀e:Int,e≠0→a8 n m most=some ([],0,0,e)→bw n m (qui n.2.1.length) most=some (zG,e)→MustR n m most:=fun e he h1 h2=>by
  refine .err e he ?_ ?_
  ·unfold jw;cases hv:ey n with
   |true=>
    rw[hv]at hV;simp(disch:=omega)only[hV,h1,decide_eq_false he,Bool.not_true,Bool.not_false,rs]
   |false=>
    rw[hv]at hV;have hE:=ur h m (by omega);rw[hv]at hE;have he' :a8 n m most=some ([],0,0,1):=by
     unfold a8;simp(disch:=omega)only[hE,Bool.false_and,rs]
    rw[he']at h1;cases h1;simp(disch:=omega)only[hV,Bool.not_false,rs]
  ·unfold ni;simp(disch:=omega)only[ho,h2,decide_eq_false he,Bool.not_false,rs]
 cases res h htr hl (ts:=qui n.2.1.length) (by omega) hmost with
 |err e he h1 h2=>exact key e he (hg.symm.trans h1) h2
 |none M g N h1 hr h2=>
  have hv:ey n=true:=by
   cases hv:ey n with
   |true=>rfl
   |false=>
    have hE:=ur h m (by omega);rw[hv]at hE;have he' :a8 n m most=some ([],0,0,1):=by
     unfold a8;simp(disch:=omega)only[hE,Bool.false_and,rs]
    rw[hg,he']at h1;cases h1
  rw[hv]at hV;rw[hg]at h1;obtain⟨x,hx⟩:=hr;refine .err 10 (by decide) ?_ ?_
  ·unfold jw;simp(disch:=omega)only[hV,h1,hx,Bool.not_true,Bool.not_false,rs]
  ·unfold ni;simp(disch:=omega)only[ho,h2,Bool.not_false,rs]
 |ok σ N g nE c hG hc hv hm hts h1 hr h2=>
  rw[hv]at hV;rw[hg]at h1;obtain⟨x,hx⟩:=hr;have hL1:=q5q hG n.2.1.length (by omega);have hL2:=q50 hG n.1 n.2.2.1 n.2.2.2.1 (fk N c);refine .ok σ N g nE c hG hc ?_ ?_
  ·unfold jw;simp(disch:=omega)only[hV,h1,hx,hL1,Bool.not_true,rs]
  ·unfold ni;simp(disch:=omega)only[ho,h2,hL2,Bool.not_true,rs]
theorem qyi{n:cx}(h:Small n)(htr:n.2.1.length≤20){m:List Int}(hl:m.length≤1000){most:Int}(hmost:¬(100<most∧most≤2000)):∃e l,jw n m most=some (e,l)∧ni n m most=some (e,l)∧l.length≤100:=by
 cases jcd h htr hl hmost with
 |err e he h1 h2=>exact⟨e,[],h1,h2,by simp⟩
 |ok σ N g nE c hG hc h1 h2=>exact⟨0,_,h1,h2,by have:=qoy (sj c nE) g n.2.1.length;omega⟩
abbrev aN:cx:=(3,[(⟨#[97]⟩,[0],[1],()),(⟨#[98]⟩,[1],[2],()),(⟨#[99]⟩,[1],[2],())],0,2,())
abbrev aT:List af:=[(2,5,false,()),(1,1,false,()),(4,9,false,())]
theorem q1u:Small aN:=⟨by decide,by decide,by decide⟩
theorem jtg:kh aN [1,0,0] aT 10=some ((3,14,false,()),0):=by kernel_rfl
theorem jmf:ge aN [1,0,0] aT 10=some (0,[0,2]):=by kernel_rfl
theorem jme:ni aN [1,0,0] 10=some (0,[0]):=by kernel_rfl
theorem ql0:z4=some true:=by
 have hr:=res (most:=10) q1u (by decide) (m:=[1,0,0]) (by decide) (ts:=aT) (by decide) (by omega);obtain⟨B,e,a1,a2,_⟩:=jcy hr;rw[jtg]at a2;cases a2;obtain⟨e2,l2,b1,b2,_⟩:=qys hr;rw[jmf]at b2;cases b2;obtain⟨e3,l3,c1,c2,_⟩:=qyi (most:=10) q1u (by decide) (m:=[1,0,0]) (by decide) (by omega);rw[jme]at c2;cases c2;have a1' :s3 3 [(⟨#[97]⟩,[0],[1],()),(⟨#[98]⟩,[1],[2],()),(⟨#[99]⟩,[1],[2],())] 0 2 [1,0,0] [(2,5,false,()),(1,1,false,()),(4,9,false,())] 10=some ((3,14,false,()),0):=a1;have b1' :xp 3 [(⟨#[97]⟩,[0],[1],()),(⟨#[98]⟩,[1],[2],()),(⟨#[99]⟩,[1],[2],())] 0 2 [1,0,0] [(2,5,false,()),(1,1,false,()),(4,9,false,())] 10=some (0,[0,2]):=b1;have c1' :qem 3 [(⟨#[97]⟩,[0],[1],()),(⟨#[98]⟩,[1],[2],()),(⟨#[99]⟩,[1],[2],())] 0 2 [1,0,0] 10=some (0,[0]):=c1;have e1:bh [0,2] [0,2]=some true:=by kernel_rfl
 have e2:bh [0] [0]=some true:=by kernel_rfl
 unfold z4;rw[a1',b1',c1'];simp(disch:=omega)only[e1,e2,rs];rfl
end Go.Proofs.Ytokeielgplbdeaa
