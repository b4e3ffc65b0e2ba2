/-
  Predict: Fastest, Slowest and Must of program and reference agree.
-/
import Derived.Test.YtokeielgplbdeaaZ8C8
set_option linter.all false
namespace Go.Proofs.Ytokeielgplbdeaa
open Go.K Go.M
section
variable {n : cj} {m : List Int} {M : Nat} {σ : pb} {N g : Nat} {nE : List Eg} {c : Mk} {ts : List af} {sl : Bool} {d : p0}
theorem juv{TT:Nat}(hts:du ts TT=true):Wt (fun t=>jd t ts) (kd ts true) TT:=by
 refine⟨fun t ht=> ?_,fun t ht=>ul hts true t (by rw[jl hts];exact ht)⟩;have:=jl hts;unfold jd;simp(disch:=omega)only[Int.toNat_natCast,rs];rfl
abbrev jkk(l:List Eg):List Int:=l.map fun e=>(e.2.2:Int)
structure WayOK (nE : List Eg) (g : Nat) (ts : List af) (sl : Bool) (v : xf) (l : List Eg) : Prop where
 wk : tj (fun e => e ∈ nE) 0 l g
 wt : wtL (kd ts sl) l = v.1
 len : l.length ≤ 100
 stp : (l.length : Int) = v.2
end
theorem q72{n:cj}{m:List Int}{ts:List af}{most:Int}{e:Int}(he:e≠0)(h1:bp n m ts most=some ([],0,0,e)):eh n m ts most=some (e,[]):=by
 unfold eh;simp(disch:=omega)only[h1,decide_eq_false he,Bool.not_false,rs]
theorem q3o{n:cj}{m:List Int}{ts:List af}{most:Int}{M:List (Int×List ab)}{g N:Int}(h1:bp n m ts most=some (M,g,N,0))(hr:∃x,az M g N=some (x,false)):eh n m ts most=some (10,[]):=by
 obtain⟨x,hx⟩:=hr;unfold eh;simp(disch:=omega)only[h1,hx,Bool.not_false,rs]
theorem qwk{n:cj}{m:List Int}{ts:List af}{most:Int}{e:Int}(he:e≠0)(h1:ci n m ts most=some (zG,e)):kc n m ts most=some (e,[]):=by
 unfold kc;simp(disch:=omega)only[h1,decide_eq_false he,Bool.not_false,rs]
theorem jbv{n:cj}{m:List Int}{ts:List af}{most:Int}{σ:pb}{N g:Nat}{nE:List Eg}{c:Mk}(h1:bp n m ts most=some (gEs c nE,(g:Int),(N:Int),0))(hr:∃x,az (gEs c nE) (g:Int) (N:Int)=some (x,true))(h2:ci n m ts most=some (rGr σ N g nE c,0))(h3:cx (gEs c nE) (g:Int) (N:Int) ts=some true)(h4:f7 (rGr σ N g nE c) ts=some true):eh n m ts most=some (18,[])∧kc n m ts most=some (18,[]):=by
 obtain⟨x,hx⟩:=hr;constructor
 ·unfold eh;simp(disch:=omega)only[h1,hx,h3,Bool.not_true,rs]
 ·unfold kc;simp(disch:=omega)only[h2,h4,Bool.not_true,rs]
theorem q8f{n:cj}{m:List Int}{ts:List af}{most:Int}{σ:pb}{N g:Nat}{nE:List Eg}{c:Mk}(hG:GG n m most.toNat σ N g nE c)(hts:du ts n.2.1.length=true)(h1:bp n m ts most=some (gEs c nE,(g:Int),(N:Int),0))(hr:∃x,az (gEs c nE) (g:Int) (N:Int)=some (x,true))(h2:ci n m ts most=some (rGr σ N g nE c,0))
  (h3:cx (gEs c nE) (g:Int) (N:Int) ts=some false) (h4:f7 (rGr σ N g nE c) ts=some false)
  {d:p0} {v:xf} (hd:DistOK σ N g nE c n.2.1.length ts true d) (hv:d 0=some v):∃l,WayOK nE g ts true v l∧eh n m ts most=some (0,jkk l)∧kc n m ts most=some (0,jkk l):=by
 obtain⟨x,hx⟩:=hr;obtain⟨l,l1,l2,l3,l4,l5,l6⟩:=jb4 hG hts hd hv (juv hts);refine⟨l,⟨l1,l2,l3,l4⟩,?_,?_⟩
 ·unfold eh;simp only[jkq];simp(disch:=omega)only[h1,hx,h3,l5,Bool.not_true,rs]
 ·unfold kc;simp(disch:=omega)only[h2,h4,l6,Bool.not_true,rs]
theorem q8g{n:cj}{m:List Int}{ts:List af}{most:Int}(h:Res n m ts most):∃e l,eh n m ts most=some (e,l)∧kc n m ts most=some (e,l)∧l.length≤100:=by
 cases h with
 |err e he h1 h2=>exact⟨e,[],q72 he h1,qwk he h2,by simp⟩
 |none M g N h1 hr h2=>exact⟨10,[],q3o h1 hr,qwk (by decide) h2,by simp⟩
 |ok σ N g nE c hG hc hv hm hts h1 hr h2=>
  obtain⟨B,hB⟩:=qq0 hG hc hts;cases hB with
  |opn dF v hF h0 ho h3 h4=>
   obtain⟨a1,a2⟩:=jbv h1 hr h2 h3 h4;exact⟨18,[],a1,a2,by simp⟩
  |cls dF dS v u hF h0 ho h3 h4 hS h5=>
   obtain⟨l,hl,a1,a2⟩:=q8f hG hts h1 hr h2 h3 h4 hS h5;exact⟨0,_,a1,a2,by rw[List.length_map];exact hl.len⟩
noncomputable def qbb(L:List Eg)(g t:Nat):Bool:= @decide (rn (EN t L) 0 g) (Classical.propDecidable _)
theorem qia{L:List Eg}{g t:Nat}:qbb L g t=true↔rn (EN t L) 0 g:=by
 unfold qbb;exact @decide_eq_true_iff _ (Classical.propDecidable _)
noncomputable def o7(L:List Eg)(g T:Nat):List Int:=((List.range T).filter fun t=> !qbb L g t).map fun(t:Nat)=>(t:Int)
theorem qsn(L:List Eg)(g T:Nat):o7 L g (T+1)=bif qbb L g T then o7 L g T else o7 L g T++[(T:Int)]:=by
 unfold o7;rw[List.range_succ,List.filter_append,List.map_append];cases h:qbb L g T with
 |true=>rw[List.filter_cons_of_neg (by simp[h])];simp
 |false=>rw[List.filter_cons_of_pos (by simp[h])];rfl
theorem qcn(L:List Eg)(g T:Nat):(o7 L g T).length≤T:=by
 unfold o7;rw[List.length_map];have:=List.length_filter_le (fun t=> !qbb L g t) (List.range T);rwa[List.length_range]at this
theorem qnx{L:List Eg}{g T:Nat}{x:Int}:x∈o7 L g T↔∃t:Nat,x=(t:Int)∧t<T∧¬rn (EN t L) 0 g:=by
 unfold o7;constructor
 ·intro h;obtain⟨t,h1,rfl⟩:=List.mem_map.1 h;obtain⟨h2,h3⟩:=List.mem_filter.1 h1;refine⟨t,rfl,List.mem_range.1 h2,fun hr=> ?_⟩;rw[qia.2 hr]at h3;cases h3
 ·rintro⟨t,rfl,h1,h2⟩;refine List.mem_map.2 ⟨t,List.mem_filter.2 ⟨List.mem_range.2 h1,?_⟩,rfl⟩;cases hb:qbb L g t with
  |true=>exact absurd (qia.1 hb) h2
  |false=>rfl
theorem q5g{E E' :Eg→Prop}:∀{l:List Eg} {i j:Nat},tj E i l j→tj E' i l j→tj (fun e=>E e∧E' e) i l j
 |[],_,_,h,_=>h
 |_::_,_,_,⟨h1,h2,h3⟩,⟨_,h5,h6⟩=>⟨h1,⟨h2,h5⟩,q5g h3 h6⟩
theorem q6y{n:cj}{m:List Int}{M:Nat}{σ:pb}{N g:Nat}{nE:List Eg}{c:Mk}(h:GG n m M σ N g nE c)(t:Nat):rn (EN t (ov c nE)) 0 g↔rn (EP (vq (t:Int)) nE) 0 g:=by
 constructor
 ·exact rn.mono fun e he=>⟨qee he.1,by
   have:=he.2;unfold vq;rw[decide_eq_false (by omega)];rfl⟩
 ·rintro⟨l,hl⟩;have h1:=(h.path (hl.mono fun e he=>he.1) h.cg).1;refine⟨l,(q5g h1 hl).mono fun e he=>⟨he.1,fun h2=> ?_⟩⟩;have h3:=he.2.2;unfold vq at h3;rw[decide_eq_true (by omega)]at h3;cases h3
theorem q3n{n:cj}{m:List Int}{M:Nat}{σ:pb}{N g:Nat}{nE:List Eg}{c:Mk}(h:GG n m M σ N g nE c)(T:Nat)(hT:T≤100000):qfq (T:Int) (gEs c nE) (g:Int) (N:Int) (0,[])=some (.inl (o7 (ov c nE) g T)):=by
 refine jy (fun k:Nat=>((k:Int),o7 (ov c nE) g k)) T (bm (by omega)) _ (fun k hk=> ?_) ?_ _ (by rfl)
 ·obtain⟨b,hb,hb2⟩:=q4d h.gl' (q2e (ov c nE)) k g h.pos (N:Int);have hbe:b=qbb (ov c nE) g k:=by rw[Bool.eq_iff_iff,hb2,qia]
  have hlen:=qcn (ov c nE) g k;rw[qsn,←hbe];cases b with
  |true=>
   simp(disch:=omega)only[mm,hb,Bool.not_true,al,rs]
  |false=>
   simp(disch:=omega)only[mm,hb,Bool.not_false,al,rs]
 ·simp(disch:=omega)only[mm,rs]
theorem q3w{n:cj}{m:List Int}{M:Nat}{σ:pb}{N g:Nat}{nE:List Eg}{c:Mk}(h:GG n m M σ N g nE c)(a b d:Int)(can:List Bool):qmv a n.2.1 b d σ.2.1 (nE.map cn) σ.1 (g:Int) can (0,[])=some (.inl (o7 (ov c nE) g n.2.1.length)):=by
 have htr:=h.tr;have hlen2:=h.len;have hN:=h.pos;refine jy (fun k:Nat=>((k:Int),o7 (ov c nE) g k)) n.2.1.length (bm (by omega)) _ (fun k hk=> ?_) ?_ _ (by rfl)
 ·obtain⟨c',hb,hb2⟩:=qw6 (N:=N) (TT:=n.2.1.length) (g:=g) (by omega) h.gl nE h.good (by omega) (k:Int) σ.2.1 h.eN.symm σ.1;have hbe:c' 0=qbb (ov c nE) g k:=by rw[Bool.eq_iff_iff,hb2 0,qia,q6y h]
  have h0:(fb N c').getD 0 false=c' 0:=tv hN;have hlb:=xo N c';have hlen:=qcn (ov c nE) g k;rw[qsn,←hbe];cases hc:c' 0 with
  |true=>
   rw[hc]at h0;simp(disch:=omega)only[w9,hb,h0,Bool.not_true,al,rs]
  |false=>
   rw[hc]at h0;simp(disch:=omega)only[w9,hb,h0,Bool.not_false,al,rs]
 ·simp(disch:=omega)only[w9,rs]
inductive MustR (n : cj) (m : List Int) (most : Int) : Prop
 | err (e : Int) (he : e ≠ 0) (h1 : gh n m most = some (e, [])) (h2 : si n m most = some (e, []))
 | ok (σ : pb) (N g : Nat) (nE : List Eg) (c : Mk) (hG : GG n m most.toNat σ N g nE c) (hc : c 0 = true) (h1 : gh n m most = some (0, o7 (ov c nE) g n.2.1.length)) (h2 : si n m most = some (0, o7 (ov c nE) g n.2.1.length))
theorem q00{n:cj}(h:Small n)(htr:n.2.1.length≤20){m:List Int}(hl:m.length≤1000){most:Int}(hmost:¬(100<most∧most≤2000)):MustR n m most:=by
 have hV:=qb9 h;have ho:=jbk n.2.1.length htr;have hlo:(qau n.2.1.length).length=n.2.1.length:=List.length_replicate;have hg:=qr3 h htr hl (ts:=qau n.2.1.length) (by omega) most;rw[vy]at hg;have hg:bp n m (qau n.2.1.length) most=ao n m most:=hg;have key:∀e:Int,e≠0→ao n m most=some ([],0,0,e)→ci n m (qau n.2.1.length) most=some (zG,e)→MustR n m most:=fun e he h1 h2=>by
  refine .err e he ?_ ?_
  ·unfold gh;cases hv:b9 n with
   |true=>
    rw[hv]at hV;simp(disch:=omega)only[hV,h1,decide_eq_false he,Bool.not_true,Bool.not_false,rs]
   |false=>
    rw[hv]at hV;have hE:=rv h m (by omega);rw[hv]at hE;have he' :ao n m most=some ([],0,0,1):=by
     unfold ao;simp(disch:=omega)only[hE,Bool.false_and,rs]
    rw[he']at h1;cases h1;simp(disch:=omega)only[hV,Bool.not_false,rs]
  ·unfold si;simp(disch:=omega)only[ho,h2,decide_eq_false he,Bool.not_false,rs]
 cases res h htr hl (ts:=qau n.2.1.length) (by omega) hmost with
 |err e he h1 h2=>exact key e he (hg.symm.trans h1) h2
 |none M g N h1 hr h2=>
  have hv:b9 n=true:=by
   cases hv:b9 n with
   |true=>rfl
   |false=>
    have hE:=rv h m (by omega);rw[hv]at hE;have he' :ao n m most=some ([],0,0,1):=by
     unfold ao;simp(disch:=omega)only[hE,Bool.false_and,rs]
    rw[hg,he']at h1;cases h1
  rw[hv]at hV;rw[hg]at h1;obtain⟨x,hx⟩:=hr;refine .err 10 (by decide) ?_ ?_
  ·unfold gh;simp(disch:=omega)only[hV,h1,hx,Bool.not_true,Bool.not_false,rs]
  ·unfold si;simp(disch:=omega)only[ho,h2,Bool.not_false,rs]
 |ok σ N g nE c hG hc hv hm hts h1 hr h2=>
  rw[hv]at hV;rw[hg]at h1;obtain⟨x,hx⟩:=hr;have hL1:=q3n hG n.2.1.length (by omega);have hL2:=q3w hG n.1 n.2.2.1 n.2.2.2.1 (fb N c);refine .ok σ N g nE c hG hc ?_ ?_
  ·unfold gh;simp(disch:=omega)only[hV,h1,hx,hL1,Bool.not_true,rs]
  ·unfold si;simp(disch:=omega)only[ho,h2,hL2,Bool.not_true,rs]
theorem q7x{n:cj}(h:Small n)(htr:n.2.1.length≤20){m:List Int}(hl:m.length≤1000){most:Int}(hmost:¬(100<most∧most≤2000)):∃e l,gh n m most=some (e,l)∧si n m most=some (e,l)∧l.length≤100:=by
 cases q00 h htr hl hmost with
 |err e he h1 h2=>exact⟨e,[],h1,h2,by simp⟩
 |ok σ N g nE c hG hc h1 h2=>exact⟨0,_,h1,h2,by have:=qcn (ov c nE) g n.2.1.length;omega⟩
abbrev aN:cj:=(3,[(⟨#[97]⟩,[0],[1],()),(⟨#[98]⟩,[1],[2],()),(⟨#[99]⟩,[1],[2],())],0,2,())
abbrev aT:List af:=[(2,5,false,()),(1,1,false,()),(4,9,false,())]
theorem qzp:Small aN:=⟨by decide,by decide,by decide⟩
theorem jr2:lf aN [1,0,0] aT 10=some ((3,14,false,()),0):=by kernel_rfl
theorem jkz:kc aN [1,0,0] aT 10=some (0,[0,2]):=by kernel_rfl
theorem jky:si aN [1,0,0] 10=some (0,[0]):=by kernel_rfl
theorem qgp:qao=some true:=by
 have hr:=res (most:=10) qzp (by decide) (m:=[1,0,0]) (by decide) (ts:=aT) (by decide) (by omega);obtain⟨B,e,a1,a2,_⟩:=jbg hr;rw[jr2]at a2;cases a2;obtain⟨e2,l2,b1,b2,_⟩:=q8g hr;rw[jkz]at b2;cases b2;obtain⟨e3,l3,c1,c2,_⟩:=q7x (most:=10) qzp (by decide) (m:=[1,0,0]) (by decide) (by omega);rw[jky]at c2;cases c2;have a1' :tx 3 [(⟨#[97]⟩,[0],[1],()),(⟨#[98]⟩,[1],[2],()),(⟨#[99]⟩,[1],[2],())] 0 2 [1,0,0] [(2,5,false,()),(1,1,false,()),(4,9,false,())] 10=some ((3,14,false,()),0):=a1;have b1' :yd 3 [(⟨#[97]⟩,[0],[1],()),(⟨#[98]⟩,[1],[2],()),(⟨#[99]⟩,[1],[2],())] 0 2 [1,0,0] [(2,5,false,()),(1,1,false,()),(4,9,false,())] 10=some (0,[0,2]):=b1;have c1' :qen 3 [(⟨#[97]⟩,[0],[1],()),(⟨#[98]⟩,[1],[2],()),(⟨#[99]⟩,[1],[2],())] 0 2 [1,0,0] 10=some (0,[0]):=c1;have e1:dh [0,2] [0,2]=some true:=by kernel_rfl
 have e2:dh [0] [0]=some true:=by kernel_rfl
 unfold qao;rw[a1',b1',c1'];simp(disch:=omega)only[e1,e2,rs];rfl
end Go.Proofs.Ytokeielgplbdeaa
