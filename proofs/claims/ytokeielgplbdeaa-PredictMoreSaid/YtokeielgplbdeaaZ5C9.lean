/-
  Predict: Fastest, Slowest and Must of program and reference agree.
-/
import Derived.Test.YtokeielgplbdeaaZ5C8
set_option linter.all false
namespace Go.Proofs.Ytokeielgplbdeaa
open Go.K Go.M
section
variable {n : dr} {m : List Int} {M : Nat} {σ : qq} {N g : Nat} {nE : List Eg} {c : Mk} {ts : List af} {sl : Bool} {d : pd}
theorem jqq{TT:Nat}(hts:cq ts TT=true):Wt (fun t=>i6 t ts) (j9 ts true) TT:=by
 refine⟨fun t ht=> ?_,fun t ht=>wv hts true t (by rw[j8 hts];exact ht)⟩;have:=j8 hts;unfold i6;simp(disch:=omega)only[Int.toNat_natCast,rs];rfl
abbrev jjj(l:List Eg):List Int:=l.map fun e=>(e.2.2:Int)
structure WayOK (nE : List Eg) (g : Nat) (ts : List af) (sl : Bool) (v : ve) (l : List Eg) : Prop where
 wk : IsW (fun e => e ∈ nE) 0 l g
 wt : wtL (j9 ts sl) l = v.1
 len : l.length ≤ 100
 stp : (l.length : Int) = v.2
end
theorem q33{n:dr}{m:List Int}{ts:List af}{most:Int}{e:Int}(he:e≠0)(h1:bp n m ts most=some ([],0,0,e)):eu n m ts most=some (e,[]):=by
 unfold eu;simp(disch:=omega)only[h1,decide_eq_false he,Bool.not_false,rs]
theorem qz1{n:dr}{m:List Int}{ts:List af}{most:Int}{M:List (Int×List ab)}{g N:Int}(h1:bp n m ts most=some (M,g,N,0))(hr:∃x,a9 M g N=some (x,false)):eu n m ts most=some (10,[]):=by
 obtain⟨x,hx⟩:=hr;unfold eu;simp(disch:=omega)only[h1,hx,Bool.not_false,rs]
theorem qth{n:dr}{m:List Int}{ts:List af}{most:Int}{e:Int}(he:e≠0)(h1:cn n m ts most=some (zG,e)):j3 n m ts most=some (e,[]):=by
 unfold j3;simp(disch:=omega)only[h1,decide_eq_false he,Bool.not_false,rs]
theorem q7i{n:dr}{m:List Int}{ts:List af}{most:Int}{σ:qq}{N g:Nat}{nE:List Eg}{c:Mk}(h1:bp n m ts most=some (gEs c nE,(g:Int),(N:Int),0))(hr:∃x,a9 (gEs c nE) (g:Int) (N:Int)=some (x,true))(h2:cn n m ts most=some (rGr σ N g nE c,0))(h3:c7 (gEs c nE) (g:Int) (N:Int) ts=some true)(h4:f9 (rGr σ N g nE c) ts=some true):eu n m ts most=some (18,[])∧j3 n m ts most=some (18,[]):=by
 obtain⟨x,hx⟩:=hr;constructor
 ·unfold eu;simp(disch:=omega)only[h1,hx,h3,Bool.not_true,rs]
 ·unfold j3;simp(disch:=omega)only[h2,h4,Bool.not_true,rs]
theorem q4d{n:dr}{m:List Int}{ts:List af}{most:Int}{σ:qq}{N g:Nat}{nE:List Eg}{c:Mk}(hG:GG n m most.toNat σ N g nE c)(hts:cq ts n.2.1.length=true)(h1:bp n m ts most=some (gEs c nE,(g:Int),(N:Int),0))(hr:∃x,a9 (gEs c nE) (g:Int) (N:Int)=some (x,true))(h2:cn n m ts most=some (rGr σ N g nE c,0))
  (h3:c7 (gEs c nE) (g:Int) (N:Int) ts=some false) (h4:f9 (rGr σ N g nE c) ts=some false)
  {d:pd} {v:ve} (hd:DistOK σ N g nE c n.2.1.length ts true d) (hv:d 0=some v):∃l,WayOK nE g ts true v l∧eu n m ts most=some (0,jjj l)∧j3 n m ts most=some (0,jjj l):=by
 obtain⟨x,hx⟩:=hr;obtain⟨l,l1,l2,l3,l4,l5,l6⟩:=q7s hG hts hd hv (jqq hts);refine⟨l,⟨l1,l2,l3,l4⟩,?_,?_⟩
 ·unfold eu;simp only[jgl];simp(disch:=omega)only[h1,hx,h3,l5,Bool.not_true,rs]
 ·unfold j3;simp(disch:=omega)only[h2,h4,l6,Bool.not_true,rs]
theorem q4e{n:dr}{m:List Int}{ts:List af}{most:Int}(h:Res n m ts most):∃e l,eu n m ts most=some (e,l)∧j3 n m ts most=some (e,l)∧l.length≤100:=by
 cases h with
 |err e he h1 h2=>exact⟨e,[],q33 he h1,qth he h2,by simp⟩
 |none M g N h1 hr h2=>exact⟨10,[],qz1 h1 hr,qth (by decide) h2,by simp⟩
 |ok σ N g nE c hG hc hv hm hts h1 hr h2=>
  obtain⟨B,hB⟩:=qoc hG hc hts;cases hB with
  |opn dF v hF h0 ho h3 h4=>
   obtain⟨a1,a2⟩:=q7i h1 hr h2 h3 h4;exact⟨18,[],a1,a2,by simp⟩
  |cls dF dS v u hF h0 ho h3 h4 hS h5=>
   obtain⟨l,hl,a1,a2⟩:=q4d hG hts h1 hr h2 h3 h4 hS h5;exact⟨0,_,a1,a2,by rw[List.length_map];exact hl.len⟩
noncomputable def qfd(L:List Eg)(g t:Nat):Bool:= @decide (qp (EN t L) 0 g) (Classical.propDecidable _)
theorem qsi{L:List Eg}{g t:Nat}:qfd L g t=true↔qp (EN t L) 0 g:=by
 unfold qfd;exact @decide_eq_true_iff _ (Classical.propDecidable _)
noncomputable def qec(L:List Eg)(g T:Nat):List Int:=((List.range T).filter fun t=> !qfd L g t).map fun(t:Nat)=>(t:Int)
theorem qpv(L:List Eg)(g T:Nat):qec L g (T+1)=bif qfd L g T then qec L g T else qec L g T++[(T:Int)]:=by
 unfold qec;rw[List.range_succ,List.filter_append,List.map_append];cases h:qfd L g T with
 |true=>rw[List.filter_cons_of_neg (by simp[h])];simp
 |false=>rw[List.filter_cons_of_pos (by simp[h])];rfl
theorem qlv(L:List Eg)(g T:Nat):(qec L g T).length≤T:=by
 unfold qec;rw[List.length_map];have:=List.length_filter_le (fun t=> !qfd L g t) (List.range T);rwa[List.length_range]at this
theorem q1o{E E' :Eg→Prop}:∀{l:List Eg} {i j:Nat},IsW E i l j→IsW E' i l j→IsW (fun e=>E e∧E' e) i l j
 |[],_,_,h,_=>h
 |_::_,_,_,⟨h1,h2,h3⟩,⟨_,h5,h6⟩=>⟨h1,⟨h2,h5⟩,q1o h3 h6⟩
theorem q20{n:dr}{m:List Int}{M:Nat}{σ:qq}{N g:Nat}{nE:List Eg}{c:Mk}(h:GG n m M σ N g nE c)(t:Nat):qp (EN t (qr c nE)) 0 g↔qp (EP (uk (t:Int)) nE) 0 g:=by
 constructor
 ·exact qp.mono fun e he=>⟨qpa he.1,by
   have:=he.2;unfold uk;rw[decide_eq_false (by omega)];rfl⟩
 ·rintro⟨l,hl⟩;have h1:=(h.path (hl.mono fun e he=>he.1) h.cg).1;refine⟨l,(q1o h1 hl).mono fun e he=>⟨he.1,fun h2=> ?_⟩⟩;have h3:=he.2.2;unfold uk at h3;rw[decide_eq_true (by omega)]at h3;cases h3
theorem qz0{n:dr}{m:List Int}{M:Nat}{σ:qq}{N g:Nat}{nE:List Eg}{c:Mk}(h:GG n m M σ N g nE c)(T:Nat)(hT:T≤100000):qei (T:Int) (gEs c nE) (g:Int) (N:Int) (0,[])=some (.inl (qec (qr c nE) g T)):=by
 refine jo (fun k:Nat=>((k:Int),qec (qr c nE) g k)) T (bz (by omega)) _ (fun k hk=> ?_) ?_ _ (by rfl)
 ·obtain⟨b,hb,hb2⟩:=q0p h.gl' (qyt (qr c nE)) k g h.pos (N:Int);have hbe:b=qfd (qr c nE) g k:=by rw[Bool.eq_iff_iff,hb2,qsi]
  have hlen:=qlv (qr c nE) g k;rw[qpv,←hbe];cases b with
  |true=>
   simp(disch:=omega)only[pi,hb,Bool.not_true,aq,rs]
  |false=>
   simp(disch:=omega)only[pi,hb,Bool.not_false,aq,rs]
 ·simp(disch:=omega)only[pi,rs]
theorem q0a{n:dr}{m:List Int}{M:Nat}{σ:qq}{N g:Nat}{nE:List Eg}{c:Mk}(h:GG n m M σ N g nE c)(a b d:Int)(can:List Bool):qky a n.2.1 b d σ.2.1 (nE.map cw) σ.1 (g:Int) can (0,[])=some (.inl (qec (qr c nE) g n.2.1.length)):=by
 have htr:=h.tr;have hlen2:=h.len;have hN:=h.pos;refine jo (fun k:Nat=>((k:Int),qec (qr c nE) g k)) n.2.1.length (bz (by omega)) _ (fun k hk=> ?_) ?_ _ (by rfl)
 ·obtain⟨c',hb,hb2⟩:=qty (N:=N) (TT:=n.2.1.length) (g:=g) (by omega) h.gl nE h.good (by omega) (k:Int) σ.2.1 h.eN.symm σ.1;have hbe:c' 0=qfd (qr c nE) g k:=by rw[Bool.eq_iff_iff,hb2 0,qsi,q20 h]
  have h0:(fv N c').getD 0 false=c' 0:=sq hN;have hlb:=wa N c';have hlen:=qlv (qr c nE) g k;rw[qpv,←hbe];cases hc:c' 0 with
  |true=>
   rw[hc]at h0;simp(disch:=omega)only[vm,hb,h0,Bool.not_true,aq,rs]
  |false=>
   rw[hc]at h0;simp(disch:=omega)only[vm,hb,h0,Bool.not_false,aq,rs]
 ·simp(disch:=omega)only[vm,rs]
inductive MustR (n : dr) (m : List Int) (most : Int) : Prop
 | err (e : Int) (he : e ≠ 0) (h1 : n6 n m most = some (e, [])) (h2 : qx n m most = some (e, []))
 | ok (σ : qq) (N g : Nat) (nE : List Eg) (c : Mk) (hG : GG n m most.toNat σ N g nE c) (hc : c 0 = true) (h1 : n6 n m most = some (0, qec (qr c nE) g n.2.1.length)) (h2 : qx n m most = some (0, qec (qr c nE) g n.2.1.length))
theorem q6m{n:dr}(h:Small n)(htr:n.2.1.length≤20){m:List Int}(hl:m.length≤1000){most:Int}(hmost:¬(100<most∧most≤2000)):MustR n m most:=by
 have hV:=qi9 h;have ho:=q68 n.2.1.length htr;have hlo:(qp6 n.2.1.length).length=n.2.1.length:=List.length_replicate;have hg:=qjv h htr hl (ts:=qp6 n.2.1.length) (by omega) most;rw[qzw]at hg;have hg:bp n m (qp6 n.2.1.length) most=ay n m most:=hg;have key:∀e:Int,e≠0→ay n m most=some ([],0,0,e)→cn n m (qp6 n.2.1.length) most=some (zG,e)→MustR n m most:=fun e he h1 h2=>by
  refine .err e he ?_ ?_
  ·unfold n6;cases hv:em n with
   |true=>
    rw[hv]at hV;simp(disch:=omega)only[hV,h1,decide_eq_false he,Bool.not_true,Bool.not_false,rs]
   |false=>
    rw[hv]at hV;have hE:=oq h m (by omega);rw[hv]at hE;have he' :ay n m most=some ([],0,0,1):=by
     unfold ay;simp(disch:=omega)only[hE,Bool.false_and,rs]
    rw[he']at h1;cases h1;simp(disch:=omega)only[hV,Bool.not_false,rs]
  ·unfold qx;simp(disch:=omega)only[ho,h2,decide_eq_false he,Bool.not_false,rs]
 cases res h htr hl (ts:=qp6 n.2.1.length) (by omega) hmost with
 |err e he h1 h2=>exact key e he (hg.symm.trans h1) h2
 |none M g N h1 hr h2=>
  have hv:em n=true:=by
   cases hv:em n with
   |true=>rfl
   |false=>
    have hE:=oq h m (by omega);rw[hv]at hE;have he' :ay n m most=some ([],0,0,1):=by
     unfold ay;simp(disch:=omega)only[hE,Bool.false_and,rs]
    rw[hg,he']at h1;cases h1
  rw[hv]at hV;rw[hg]at h1;obtain⟨x,hx⟩:=hr;refine .err 10 (by decide) ?_ ?_
  ·unfold n6;simp(disch:=omega)only[hV,h1,hx,Bool.not_true,Bool.not_false,rs]
  ·unfold qx;simp(disch:=omega)only[ho,h2,Bool.not_false,rs]
 |ok σ N g nE c hG hc hv hm hts h1 hr h2=>
  rw[hv]at hV;rw[hg]at h1;obtain⟨x,hx⟩:=hr;have hL1:=qz0 hG n.2.1.length (by omega);have hL2:=q0a hG n.1 n.2.2.1 n.2.2.2.1 (fv N c);refine .ok σ N g nE c hG hc ?_ ?_
  ·unfold n6;simp(disch:=omega)only[hV,h1,hx,hL1,Bool.not_true,rs]
  ·unfold qx;simp(disch:=omega)only[ho,h2,hL2,Bool.not_true,rs]
theorem q3z{n:dr}(h:Small n)(htr:n.2.1.length≤20){m:List Int}(hl:m.length≤1000){most:Int}(hmost:¬(100<most∧most≤2000)):∃e l,n6 n m most=some (e,l)∧qx n m most=some (e,l)∧l.length≤100:=by
 cases q6m h htr hl hmost with
 |err e he h1 h2=>exact⟨e,[],h1,h2,by simp⟩
 |ok σ N g nE c hG hc h1 h2=>exact⟨0,_,h1,h2,by have:=qlv (qr c nE) g n.2.1.length;omega⟩
abbrev aN:dr:=(3,[(⟨#[97]⟩,[0],[1],()),(⟨#[98]⟩,[1],[2],()),(⟨#[99]⟩,[1],[2],())],0,2,())
abbrev aT:List af:=[(2,5,false,()),(1,1,false,()),(4,9,false,())]
theorem qwc:Small aN:=⟨by decide,by decide,by decide⟩
theorem jnx:jd aN [1,0,0] aT 10=some ((3,14,false,()),0):=by kernel_rfl
theorem jgu:j3 aN [1,0,0] aT 10=some (0,[0,2]):=by kernel_rfl
theorem jgt:qx aN [1,0,0] 10=some (0,[0]):=by kernel_rfl
theorem qfe:zg=some true:=by
 have hr:=res (most:=10) qwc (by decide) (m:=[1,0,0]) (by decide) (ts:=aT) (by decide) (by omega);obtain⟨B,e,a1,a2,_⟩:=qqx hr;rw[jnx]at a2;cases a2;obtain⟨e2,l2,b1,b2,_⟩:=q4e hr;rw[jgu]at b2;cases b2;obtain⟨e3,l3,c1,c2,_⟩:=q3z (most:=10) qwc (by decide) (m:=[1,0,0]) (by decide) (by omega);rw[jgt]at c2;cases c2;have a1' :sx 3 [(⟨#[97]⟩,[0],[1],()),(⟨#[98]⟩,[1],[2],()),(⟨#[99]⟩,[1],[2],())] 0 2 [1,0,0] [(2,5,false,()),(1,1,false,()),(4,9,false,())] 10=some ((3,14,false,()),0):=a1;have b1' :xd 3 [(⟨#[97]⟩,[0],[1],()),(⟨#[98]⟩,[1],[2],()),(⟨#[99]⟩,[1],[2],())] 0 2 [1,0,0] [(2,5,false,()),(1,1,false,()),(4,9,false,())] 10=some (0,[0,2]):=b1;have c1' :qdg 3 [(⟨#[97]⟩,[0],[1],()),(⟨#[98]⟩,[1],[2],()),(⟨#[99]⟩,[1],[2],())] 0 2 [1,0,0] 10=some (0,[0]):=c1;have e1:dl [0,2] [0,2]=some true:=by kernel_rfl
 have e2:dl [0] [0]=some true:=by kernel_rfl
 unfold zg;rw[a1',b1',c1'];simp(disch:=omega)only[e1,e2,rs];rfl
end Go.Proofs.Ytokeielgplbdeaa
