/-
  Predict: Fastest, Slowest and Must of program and reference agree.
-/
import Derived.Test.YtokeielgplbdeaaZ4C8
set_option linter.all false
namespace Go.Proofs.Ytokeielgplbdeaa
open Go.K Go.M
section
variable {n : c8} {m : List Int} {M : Nat} {σ : ox} {N g : Nat} {nE : List Eg} {c : Mk} {ts : List af} {sl : Bool} {d : pp}
theorem jry{TT:Nat}(hts:c7 ts TT=true):Wt (fun t=>jb t ts) (gg ts true) TT:=by
 refine⟨fun t ht=> ?_,fun t ht=>oe hts true t (by rw[gz hts];exact ht)⟩;have:=gz hts;unfold jb;simp(disch:=omega)only[Int.toNat_natCast,rs];rfl
abbrev qs9(l:List Eg):List Int:=l.map fun e=>(e.2.2:Int)
structure WayOK (nE : List Eg) (g : Nat) (ts : List af) (sl : Bool) (v : wi) (l : List Eg) : Prop where
 wk : sw (fun e => e ∈ nE) 0 l g
 wt : tz (gg ts sl) l = v.1
 len : l.length ≤ 100
 stp : (l.length : Int) = v.2
end
theorem q49{n:c8}{m:List Int}{ts:List af}{most:Int}{e:Int}(he:e≠0)(h1:bk n m ts most=some ([],0,0,e)):ec n m ts most=some (e,[]):=by
 unfold ec;simp(disch:=omega)only[h1,decide_eq_false he,Bool.not_false,rs]
theorem q04{n:c8}{m:List Int}{ts:List af}{most:Int}{M:List (Int×List ab)}{g N:Int}(h1:bk n m ts most=some (M,g,N,0))(hr:∃x,ax M g N=some (x,false)):ec n m ts most=some (10,[]):=by
 obtain⟨x,hx⟩:=hr;unfold ec;simp(disch:=omega)only[h1,hx,Bool.not_false,rs]
theorem qug{n:c8}{m:List Int}{ts:List af}{most:Int}{e:Int}(he:e≠0)(h1:cm n m ts most=some (zG,e)):j5 n m ts most=some (e,[]):=by
 unfold j5;simp(disch:=omega)only[h1,decide_eq_false he,Bool.not_false,rs]
theorem q8s{n:c8}{m:List Int}{ts:List af}{most:Int}{σ:ox}{N g:Nat}{nE:List Eg}{c:Mk}(h1:bk n m ts most=some (gEs c nE,(g:Int),(N:Int),0))(hr:∃x,ax (gEs c nE) (g:Int) (N:Int)=some (x,true))(h2:cm n m ts most=some (rGr σ N g nE c,0))(h3:cx (gEs c nE) (g:Int) (N:Int) ts=some true)(h4:f5 (rGr σ N g nE c) ts=some true):ec n m ts most=some (18,[])∧j5 n m ts most=some (18,[]):=by
 obtain⟨x,hx⟩:=hr;constructor
 ·unfold ec;simp(disch:=omega)only[h1,hx,h3,Bool.not_true,rs]
 ·unfold j5;simp(disch:=omega)only[h2,h4,Bool.not_true,rs]
theorem q5k{n:c8}{m:List Int}{ts:List af}{most:Int}{σ:ox}{N g:Nat}{nE:List Eg}{c:Mk}(hG:GG n m most.toNat σ N g nE c)(hts:c7 ts n.2.1.length=true)(h1:bk n m ts most=some (gEs c nE,(g:Int),(N:Int),0))(hr:∃x,ax (gEs c nE) (g:Int) (N:Int)=some (x,true))(h2:cm n m ts most=some (rGr σ N g nE c,0))
  (h3:cx (gEs c nE) (g:Int) (N:Int) ts=some false) (h4:f5 (rGr σ N g nE c) ts=some false)
  {d:pp} {v:wi} (hd:DistOK σ N g nE c n.2.1.length ts true d) (hv:d 0=some v):∃l,WayOK nE g ts true v l∧ec n m ts most=some (0,qs9 l)∧j5 n m ts most=some (0,qs9 l):=by
 obtain⟨x,hx⟩:=hr;obtain⟨l,l1,l2,l3,l4,l5,l6⟩:=q84 hG hts hd hv (jry hts);refine⟨l,⟨l1,l2,l3,l4⟩,?_,?_⟩
 ·unfold ec;simp only[jhs];simp(disch:=omega)only[h1,hx,h3,l5,Bool.not_true,rs]
 ·unfold j5;simp(disch:=omega)only[h2,h4,l6,Bool.not_true,rs]
theorem q5l{n:c8}{m:List Int}{ts:List af}{most:Int}(h:Res n m ts most):∃e l,ec n m ts most=some (e,l)∧j5 n m ts most=some (e,l)∧l.length≤100:=by
 cases h with
 |err e he h1 h2=>exact⟨e,[],q49 he h1,qug he h2,by simp⟩
 |none M g N h1 hr h2=>exact⟨10,[],q04 h1 hr,qug (by decide) h2,by simp⟩
 |ok σ N g nE c hG hc hv hm hts h1 hr h2=>
  obtain⟨B,hB⟩:=qpg hG hc hts;cases hB with
  |opn dF v hF h0 ho h3 h4=>
   obtain⟨a1,a2⟩:=q8s h1 hr h2 h3 h4;exact⟨18,[],a1,a2,by simp⟩
  |cls dF dS v u hF h0 ho h3 h4 hS h5=>
   obtain⟨l,hl,a1,a2⟩:=q5k hG hts h1 hr h2 h3 h4 hS h5;exact⟨0,_,a1,a2,by rw[List.length_map];exact hl.len⟩
noncomputable def qdw(L:List Eg)(g t:Nat):Bool:= @decide (qt (EN t L) 0 g) (Classical.propDecidable _)
theorem qht{L:List Eg}{g t:Nat}:qdw L g t=true↔qt (EN t L) 0 g:=by
 unfold qdw;exact @decide_eq_true_iff _ (Classical.propDecidable _)
noncomputable def ru(L:List Eg)(g T:Nat):List Int:=((List.range T).filter fun t=> !qdw L g t).map fun(t:Nat)=>(t:Int)
theorem qq2(L:List Eg)(g T:Nat):ru L g (T+1)=bif qdw L g T then ru L g T else ru L g T++[(T:Int)]:=by
 unfold ru;rw[List.range_succ,List.filter_append,List.map_append];cases h:qdw L g T with
 |true=>rw[List.filter_cons_of_neg (by simp[h])];simp
 |false=>rw[List.filter_cons_of_pos (by simp[h])];rfl
theorem qcf(L:List Eg)(g T:Nat):(ru L g T).length≤T:=by
 unfold ru;rw[List.length_map];have:=List.length_filter_le (fun t=> !qdw L g t) (List.range T);rwa[List.length_range]at this
theorem qmu{L:List Eg}{g T:Nat}{x:Int}:x∈ru L g T↔∃t:Nat,x=(t:Int)∧t<T∧¬qt (EN t L) 0 g:=by
 unfold ru;constructor
 ·intro h;obtain⟨t,h1,rfl⟩:=List.mem_map.1 h;obtain⟨h2,h3⟩:=List.mem_filter.1 h1;refine⟨t,rfl,List.mem_range.1 h2,fun hr=> ?_⟩;rw[qht.2 hr]at h3;cases h3
 ·rintro⟨t,rfl,h1,h2⟩;refine List.mem_map.2 ⟨t,List.mem_filter.2 ⟨List.mem_range.2 h1,?_⟩,rfl⟩;cases hb:qdw L g t with
  |true=>exact absurd (qht.1 hb) h2
  |false=>rfl
theorem q2w{E E' :Eg→Prop}:∀{l:List Eg} {i j:Nat},sw E i l j→sw E' i l j→sw (fun e=>E e∧E' e) i l j
 |[],_,_,h,_=>h
 |_::_,_,_,⟨h1,h2,h3⟩,⟨_,h5,h6⟩=>⟨h1,⟨h2,h5⟩,q2w h3 h6⟩
theorem q38{n:c8}{m:List Int}{M:Nat}{σ:ox}{N g:Nat}{nE:List Eg}{c:Mk}(h:GG n m M σ N g nE c)(t:Nat):qt (EN t (oz c nE)) 0 g↔qt (EP (u3 (t:Int)) nE) 0 g:=by
 constructor
 ·exact qt.mono fun e he=>⟨qd4 he.1,by
   have:=he.2;unfold u3;rw[decide_eq_false (by omega)];rfl⟩
 ·rintro⟨l,hl⟩;have h1:=(h.path (hl.mono fun e he=>he.1) h.cg).1;refine⟨l,(q2w h1 hl).mono fun e he=>⟨he.1,fun h2=> ?_⟩⟩;have h3:=he.2.2;unfold u3 at h3;rw[decide_eq_true (by omega)]at h3;cases h3
theorem qrr{n:c8}{m:List Int}{M:Nat}{σ:ox}{N g:Nat}{nE:List Eg}{c:Mk}(h:GG n m M σ N g nE c)(T:Nat)(hT:T≤100000):qfi (T:Int) (gEs c nE) (g:Int) (N:Int) (0,[])=some (.inl (ru (oz c nE) g T)):=by
 refine iz (fun k:Nat=>((k:Int),ru (oz c nE) g k)) T (bh (by omega)) _ (fun k hk=> ?_) ?_ _ (by rfl)
 ·obtain⟨b,hb,hb2⟩:=q1r h.gl' (qzx (oz c nE)) k g h.pos (N:Int);have hbe:b=qdw (oz c nE) g k:=by rw[Bool.eq_iff_iff,hb2,qht]
  have hlen:=qcf (oz c nE) g k;rw[qq2,←hbe];cases b with
  |true=>
   simp(disch:=omega)only[mf,hb,Bool.not_true,aj,rs]
  |false=>
   simp(disch:=omega)only[mf,hb,Bool.not_false,aj,rs]
 ·simp(disch:=omega)only[mf,rs]
theorem q1c{n:c8}{m:List Int}{M:Nat}{σ:ox}{N g:Nat}{nE:List Eg}{c:Mk}(h:GG n m M σ N g nE c)(a b d:Int)(can:List Bool):qlx a n.2.1 b d σ.2.1 (nE.map cr) σ.1 (g:Int) can (0,[])=some (.inl (ru (oz c nE) g n.2.1.length)):=by
 have htr:=h.tr;have hlen2:=h.len;have hN:=h.pos;refine iz (fun k:Nat=>((k:Int),ru (oz c nE) g k)) n.2.1.length (bh (by omega)) _ (fun k hk=> ?_) ?_ _ (by rfl)
 ·obtain⟨c',hb,hb2⟩:=quz (N:=N) (TT:=n.2.1.length) (g:=g) (by omega) h.gl nE h.good (by omega) (k:Int) σ.2.1 h.eN.symm σ.1;have hbe:c' 0=qdw (oz c nE) g k:=by rw[Bool.eq_iff_iff,hb2 0,qht,q38 h]
  have h0:(fb N c').getD 0 false=c' 0:=s6 hN;have hlb:=wz N c';have hlen:=qcf (oz c nE) g k;rw[qq2,←hbe];cases hc:c' 0 with
  |true=>
   rw[hc]at h0;simp(disch:=omega)only[wb,hb,h0,Bool.not_true,aj,rs]
  |false=>
   rw[hc]at h0;simp(disch:=omega)only[wb,hb,h0,Bool.not_false,aj,rs]
 ·simp(disch:=omega)only[wb,rs]
inductive MustR (n : c8) (m : List Int) (most : Int) : Prop
 | err (e : Int) (he : e ≠ 0) (h1 : ea n m most = some (e, [])) (h2 : rb n m most = some (e, []))
 | ok (σ : ox) (N g : Nat) (nE : List Eg) (c : Mk) (hG : GG n m most.toNat σ N g nE c) (hc : c 0 = true) (h1 : ea n m most = some (0, ru (oz c nE) g n.2.1.length)) (h2 : rb n m most = some (0, ru (oz c nE) g n.2.1.length))
theorem q7s{n:c8}(h:Small n)(htr:n.2.1.length≤20){m:List Int}(hl:m.length≤1000){most:Int}(hmost:¬(100<most∧most≤2000)):MustR n m most:=by
 have hV:=qgb h;have ho:=q8i n.2.1.length htr;have hlo:(qre n.2.1.length).length=n.2.1.length:=List.length_replicate;have hg:=qks h htr hl (ts:=qre n.2.1.length) (by omega) most;rw[q00]at hg;have hg:bk n m (qre n.2.1.length) most=ao n m most:=hg;have key:∀e:Int,e≠0→ao n m most=some ([],0,0,e)→cm n m (qre n.2.1.length) most=some (zG,e)→MustR n m most:=fun e he h1 h2=>by
  refine .err e he ?_ ?_
  ·unfold ea;cases hv:db n with
   |true=>
    rw[hv]at hV;simp(disch:=omega)only[hV,h1,decide_eq_false he,Bool.not_true,Bool.not_false,rs]
   |false=>
    rw[hv]at hV;have hE:=o4 h m (by omega);rw[hv]at hE;have he' :ao n m most=some ([],0,0,1):=by
     unfold ao;simp(disch:=omega)only[hE,Bool.false_and,rs]
    rw[he']at h1;cases h1;simp(disch:=omega)only[hV,Bool.not_false,rs]
  ·unfold rb;simp(disch:=omega)only[ho,h2,decide_eq_false he,Bool.not_false,rs]
 cases res h htr hl (ts:=qre n.2.1.length) (by omega) hmost with
 |err e he h1 h2=>exact key e he (hg.symm.trans h1) h2
 |none M g N h1 hr h2=>
  have hv:db n=true:=by
   cases hv:db n with
   |true=>rfl
   |false=>
    have hE:=o4 h m (by omega);rw[hv]at hE;have he' :ao n m most=some ([],0,0,1):=by
     unfold ao;simp(disch:=omega)only[hE,Bool.false_and,rs]
    rw[hg,he']at h1;cases h1
  rw[hv]at hV;rw[hg]at h1;obtain⟨x,hx⟩:=hr;refine .err 10 (by decide) ?_ ?_
  ·unfold ea;simp(disch:=omega)only[hV,h1,hx,Bool.not_true,Bool.not_false,rs]
  ·unfold rb;simp(disch:=omega)only[ho,h2,Bool.not_false,rs]
 |ok σ N g nE c hG hc hv hm hts h1 hr h2=>
  rw[hv]at hV;rw[hg]at h1;obtain⟨x,hx⟩:=hr;have hL1:=qrr hG n.2.1.length (by omega);have hL2:=q1c hG n.1 n.2.2.1 n.2.2.2.1 (fb N c);refine .ok σ N g nE c hG hc ?_ ?_
  ·unfold ea;simp(disch:=omega)only[hV,h1,hx,hL1,Bool.not_true,rs]
  ·unfold rb;simp(disch:=omega)only[ho,h2,hL2,Bool.not_true,rs]
theorem q45{n:c8}(h:Small n)(htr:n.2.1.length≤20){m:List Int}(hl:m.length≤1000){most:Int}(hmost:¬(100<most∧most≤2000)):∃e l,ea n m most=some (e,l)∧rb n m most=some (e,l)∧l.length≤100:=by
 cases q7s h htr hl hmost with
 |err e he h1 h2=>exact⟨e,[],h1,h2,by simp⟩
 |ok σ N g nE c hG hc h1 h2=>exact⟨0,_,h1,h2,by have:=qcf (oz c nE) g n.2.1.length;omega⟩
abbrev aN:c8:=(3,[(⟨#[97]⟩,[0],[1],()),(⟨#[98]⟩,[1],[2],()),(⟨#[99]⟩,[1],[2],())],0,2,())
abbrev aT:List af:=[(2,5,false,()),(1,1,false,()),(4,9,false,())]
theorem qxe:Small aN:=⟨by decide,by decide,by decide⟩
theorem jo5:kw aN [1,0,0] aT 10=some ((3,14,false,()),0):=by kernel_rfl
theorem jh1:j5 aN [1,0,0] aT 10=some (0,[0,2]):=by kernel_rfl
theorem jh0:rb aN [1,0,0] 10=some (0,[0]):=by kernel_rfl
theorem yx:z7=some true:=by
 have hr:=res (most:=10) qxe (by decide) (m:=[1,0,0]) (by decide) (ts:=aT) (by decide) (by omega);obtain⟨B,e,a1,a2,_⟩:=q8e hr;rw[jo5]at a2;cases a2;obtain⟨e2,l2,b1,b2,_⟩:=q5l hr;rw[jh1]at b2;cases b2;obtain⟨e3,l3,c1,c2,_⟩:=q45 (most:=10) qxe (by decide) (m:=[1,0,0]) (by decide) (by omega);rw[jh0]at c2;cases c2;have a1' :s9 3 [(⟨#[97]⟩,[0],[1],()),(⟨#[98]⟩,[1],[2],()),(⟨#[99]⟩,[1],[2],())] 0 2 [1,0,0] [(2,5,false,()),(1,1,false,()),(4,9,false,())] 10=some ((3,14,false,()),0):=a1;have b1' :xx 3 [(⟨#[97]⟩,[0],[1],()),(⟨#[98]⟩,[1],[2],()),(⟨#[99]⟩,[1],[2],())] 0 2 [1,0,0] [(2,5,false,()),(1,1,false,()),(4,9,false,())] 10=some (0,[0,2]):=b1;have c1' :qee 3 [(⟨#[97]⟩,[0],[1],()),(⟨#[98]⟩,[1],[2],()),(⟨#[99]⟩,[1],[2],())] 0 2 [1,0,0] 10=some (0,[0]):=c1;have e1:ct [0,2] [0,2]=some true:=by kernel_rfl
 have e2:ct [0] [0]=some true:=by kernel_rfl
 unfold z7;rw[a1',b1',c1'];simp(disch:=omega)only[e1,e2,rs];rfl
end Go.Proofs.Ytokeielgplbdeaa
