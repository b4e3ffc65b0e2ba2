/-
  Predict: what the program and the reference make of a marking.
-/
import Derived.Test.YtokeielgplbdeaaZ8B4
set_option linter.all false
namespace Go.Proofs.Ytokeielgplbdeaa
open Go.K Go.M
def egs(σ:pb):List Eg:=σ.2.2.map fun x=>(x.1.toNat,x.2.1.toNat,x.2.2.1.toNat)
theorem qnn{n:cj}{M:Nat}{m:List Int}{σ:pb}(h:SpcOK n M m σ):σ.2.2=(egs σ).map cn∧(∀e∈egs σ,GdE σ.2.1.length n.2.1.length e)∧(egs σ).length≤M*n.2.1.length:=by
 refine⟨?_,fun e he=> ?_,by unfold egs;rw[List.length_map];exact h.ml⟩
 ·unfold egs;rw[List.map_map]
  conv=>lhs;rw[←List.map_id σ.2.2]
  refine List.map_congr_left fun x hx=> ?_
  obtain⟨a,b,t,rfl,_⟩:=h.mv x hx;simp[cn,mvA]
 ·unfold egs at he;obtain⟨x,hx,rfl⟩:=List.mem_map.1 he;obtain⟨a,b,t,rfl,h1,h2,h3,_⟩:=h.mv x hx;exact⟨by simp[mvA];exact h1,by simp[mvA];exact h2,by simp[mvA];exact h3⟩
theorem qxl{σ:pb}{n:cj}{M:Nat}{m:List Int}(h:SpcOK n M m σ){a b t:Nat}:(a,b,t)∈egs σ↔mvA a b t∈σ.2.2:=by
 obtain⟨h1,_⟩:=qnn h;constructor
 ·intro he;rw[h1];exact List.mem_map.2 ⟨_,he,rfl⟩
 ·intro he;unfold egs;exact List.mem_map.2 ⟨_,he,by simp[mvA]⟩
theorem q8u{L:List Eg}{i j:Nat}:rn (EP qba L) i j↔rn (fun e=>e∈L) i j:=⟨rn.mono fun e he=>he.1,rn.mono fun e he=>⟨he,rfl⟩⟩
theorem q8v{L:List Eg}{i j:Nat}:rn (EP (vq (-1)) L) i j↔rn (fun e=>e∈L) i j:=
 ⟨rn.mono fun e he=>he.1,rn.mono fun e he=>⟨he,by unfold vq;rw[decide_eq_false (by omega)];rfl⟩⟩
structure GG (n : cj) (m : List Int) (M : Nat) (σ : pb) (N g : Nat) (nE : List Eg) (c : Mk) : Prop where
 ok : SpcOK n M m σ
 full : σ.1 = true
 eN : N = σ.2.1.length
 eE : nE = egs σ
 M100 : M ≤ 100
 gl : g < N
 fin : c7 σ g = qcq n.1 n.2.2.2.1
 leads : ∀ i, c i = true ↔ rn (fun e => e ∈ nE) i g
 tr : n.2.1.length ≤ 20
theorem GG.good{n:cj}{m:List Int}{M:Nat}{σ:pb}{N g:Nat}{nE:List Eg}{c:Mk}(h:GG n m M σ N g nE c):∀e∈nE,GdE N n.2.1.length e:=by
 rw[h.eE,h.eN];exact(qnn h.ok).2.1
theorem GG.mvs{n:cj}{m:List Int}{M:Nat}{σ:pb}{N g:Nat}{nE:List Eg}{c:Mk}(h:GG n m M σ N g nE c):σ.2.2=nE.map cn:=by
 rw[h.eE];exact(qnn h.ok).1
theorem GG.len{n:cj}{m:List Int}{M:Nat}{σ:pb}{N g:Nat}{nE:List Eg}{c:Mk}(h:GG n m M σ N g nE c):nE.length≤2000∧N≤100:=by
 have h1:=(qnn h.ok).2.2;have h2:=h.ok.sp.len;have h3:=h.M100;have h4:=h.tr;rw[h.eE,h.eN];have:M*n.2.1.length≤100*20:=Nat.mul_le_mul h3 h4;omega
abbrev gEs(c:Mk)(nE:List Eg):List (Int×List ab):=(grp (ov c nE)).map kf
abbrev zG:cu:=(([],[],false,()),0,[],())
inductive Prep (n : cj) (m : List Int) (most : Int) : Prop
 | err (e : Int) (he : e ≠ 0) (h1 : ao n m most = some ([], 0, 0, e)) (h2 : ∀ ts : List af, ts.length ≤ 1000 → du ts n.2.1.length = true → ci n m ts most = some (zG, e))
 | none (σ : pb) (N g : Nat) (nE : List Eg) (c : Mk) (hG : GG n m most.toNat σ N g nE c) (hc : c 0 = false) (h1 : ao n m most = some (gEs c nE, (g : Int), (N : Int), 0)) (hr : ∃ x, az (gEs c nE) (g : Int) (N : Int) = some (x, false)) (h2 : ∀ ts : List af, ts.length ≤ 1000 → du ts n.2.1.length = true → ci n m ts most = some (zG, 10))
 | ok (σ : pb) (N g : Nat) (nE : List Eg) (c : Mk) (hG : GG n m most.toNat σ N g nE c) (hc : c 0 = true) (hv : b9 n = true) (hm : c8 n.1 m = true) (h1 : ao n m most = some (gEs c nE, (g : Int), (N : Int), 0)) (hr : ∃ x, az (gEs c nE) (g : Int) (N : Int) = some (x, true)) (h2 : ∀ ts : List af, ts.length ≤ 1000 → du ts n.2.1.length = true → ci n m ts most = some (((σ.2.1, nE.map cn, σ.1, ()), (g : Int), fb N c, ()), 0))
theorem qvv(st:List (List Int))(x:List Int):(qp7 st x= -1∧x∉st)∨∃g:Nat,qp7 st x=(g:Int)∧g<st.length∧st.getD g []=x:=by
 unfold qp7 q0m;cases h:k9 (fun y:List Int=>decide (y=x)) st with
 |none=>exact .inl ⟨rfl,fun hx=>by have:=qcf h x hx;simp at this⟩
 |some g=>
  obtain⟨h1,h2,_⟩:=vm [] h;exact .inr ⟨g,rfl,h1,of_decide_eq_true h2⟩
theorem jdi{c:Mk}{nE:List Eg}{g:Nat}(hc:∀i,c i=true↔rn (fun e=>e∈nE) i g)(hg:¬g=0):(0<(jh (ov c nE) 0).length)↔c 0=true:=by
 constructor
 ·intro h;obtain⟨q,hq⟩:=List.exists_mem_of_length_pos h;have:=ff.1 hq;unfold ov at this;have h2:=(List.mem_filter.1 this).2;rw[Bool.and_eq_true]at h2;exact h2.1
 ·intro h;obtain⟨l,hl⟩:=(hc 0).1 h;cases l with
  |nil=>exact absurd (show 0=g from hl).symm hg
  |cons e l=>
   obtain⟨h1,h2,h3⟩:=hl;have h4:c e.2.1=true:=(hc _).2 ⟨l,h3⟩;have h5:e∈ov c nE:=List.mem_filter.2 ⟨h2,by rw[h1,h,h4];rfl⟩;have h6:e.2∈jh (ov c nE) 0:=ff.2 (by rw[←h1];exact h5);exact List.length_pos_of_mem h6
theorem jbf{c:Mk}{nE:List Eg}{g:Nat}(hc:∀i,c i=true↔rn (fun e=>e∈nE) i g)(N:Int):∃x,az (gEs c nE) (g:Int) N=some (x,c 0):=by
 unfold az;by_cases hg:g=0
 ·subst hg;refine⟨0,?_⟩;rw[(hc 0).2 (rn.refl 0)];rfl
 ·have h1:=q4n (qxv (ov c nE)) 0;refine⟨(g:Int),?_⟩;rw[q4q (by omega)];have h2:(jb ab.ty (cb (.int .i64) (0:Int) (gEs c nE))).length=(jh (ov c nE) 0).length:=by
   refine(congrArg (fun l:List ab=>l.length) h1).trans ?_;exact List.length_map _
  have h3:decide ((0:Int)<((jb ab.ty (cb (.int .i64) (0:Int) (gEs c nE))).length:Int))=c 0:=by
   rw[h2,Bool.eq_iff_iff,decide_eq_true_iff];have:=jdi hc hg;exact⟨fun hq=>this.1 (by omega),fun hq=>by have:=this.2 hq;omega⟩
  rw[h3]
theorem jnk{n:cj}(h:Small n)(htr:n.2.1.length≤20){m:List Int}(hl:m.length≤1000){most:Int}(hmost:¬(100<most∧most≤2000)):Prep n m most:=by
 have hE:=rv h m (by omega);have hV:=qa6 h;have hK:=xa n m (by omega);have hX:=qrc h m (by omega) most hmost;have hRX:=qu4 h m (by omega) most hmost;cases hvm:(b9 n&&c8 n.1 m)with
 |false=>
  rw[hvm]at hE;refine .err 1 (by decide) ?_ fun ts hts ht=> ?_
  ·unfold ao;simp(disch:=omega)only[hE,rs]
  ·unfold ci;cases hv:b9 n with
   |false=>
    rw[hv]at hV;simp(disch:=omega)only[hV,Bool.not_false,rs]
   |true=>
    rw[hv]at hV;rw[hv,Bool.true_and]at hvm;rw[hvm]at hK;simp(disch:=omega)only[hV,hK,Bool.not_true,Bool.not_false,rs]
 |true=>
  rw[hvm]at hE hX hRX;have hv:=(Bool.and_eq_true _ _▸hvm).1;have hmk:=(Bool.and_eq_true _ _▸hvm).2;rw[hv]at hV;rw[hmk]at hK;by_cases hrange:most<1∨2000<most
  ·rw[if_pos hrange]at hX hRX;refine .err 2 (by decide) ?_ fun ts hts ht=> ?_
   ·unfold ao;rcases hrange with hr|hr
    ·simp(disch:=omega)only[hE,rs]
    ·simp(disch:=omega)only[hE,rs]
   ·have hT:=ta (ts:=ts) (by omega) n.2.1.length;rw[ht]at hT;unfold ci;simp(disch:=omega)only[hV,hK,hT,hRX,Bool.not_true,rs]
  ·rw[if_neg hrange]at hX hRX;have hok:=q31 (M:=most.toNat) hmk (by omega);have hM:most.toNat≤100:=by omega
   generalize spc n most.toNat m=σ at hX hRX hok;obtain⟨e1,e2,e3⟩:=qnn hok;have hsl:=hok.sp.len;have hb:most.toNat*n.2.1.length≤100*20:=Nat.mul_le_mul hM htr;cases hfu:σ.1 with
   |false=>
    rw[hfu]at hX hRX;refine .err 13 (by decide) ?_ fun ts hts ht=> ?_
    ·unfold ao;simp(disch:=omega)only[hE,hX,Bool.not_false,rs]
    ·have hT:=ta (ts:=ts) (by omega) n.2.1.length;rw[ht]at hT;unfold ci;simp(disch:=omega)only[hV,hK,hT,hRX,Bool.not_true,Bool.not_false,rs]
   |true=>
    rw[hfu]at hX hRX;have hN:=ru hv;have hF:=qzo h hv;have hRF:=qpp (n:=n) (by omega);have hFd:=q4f (σ.2.1,σ.2.2,true,()) (qcq n.1 n.2.2.2.1) (by show σ.2.1.length≤_;omega) (fun x hx=>by have:=(ja.1 (hok.sp.mks x hx)).1;omega);have hRFd:=qtt (σ.2.1,σ.2.2,true,()) (qcq n.1 n.2.2.2.1) (by show σ.2.1.length≤_;omega) (fun x hx=>by have:=(ja.1 (hok.sp.mks x hx)).1;omega);have hpos:=hok.sp.pos;rcases qvv σ.2.1 (qcq n.1 n.2.2.2.1)with⟨hg,_⟩|⟨g,hg,hgl,hgs⟩
    ·simp only[hg]at hFd hRFd;refine .err 10 (by decide) ?_ fun ts hts ht=> ?_
     ·unfold ao;simp(disch:=omega)only[hE,hX,hF,hFd,Bool.not_true,rs]
     ·have hT:=ta (ts:=ts) (by omega) n.2.1.length;rw[ht]at hT;have hbk:=q6z (N:=σ.2.1.length) (TT:=n.2.1.length) (by omega) (egs σ) e2 (by omega) (-1) σ.2.1 rfl true;rw[←e1]at hbk;have h0:(fb σ.2.1.length fun _=>false).getD 0 false=false:=tv hpos;have hlb:=xo σ.2.1.length fun _=>false
      unfold ci;simp(disch:=omega)only[hV,hK,hT,hRX,hRF,hRFd,hbk,hlb,h0,Bool.not_true,Bool.not_false,rs]
    ·simp only[hg]at hFd hRFd;obtain⟨c,hbk,hcl⟩:=qw6 (N:=σ.2.1.length) (TT:=n.2.1.length) (g:=g) (by omega) hgl (egs σ) e2 (by omega) (-1) σ.2.1 rfl true;have hcl:∀i,c i=true↔rn (fun e=>e∈egs σ) i g:=fun i=>(hcl i).trans q8v
     rw[←e1]at hbk;obtain⟨c',hx1,hs,ha⟩:=q52 (g:=g) (by omega) (egs σ) e2 (by omega) [] 0 0 σ.2.1 true (g:Int) (σ.2.1.length:Int) [] σ.2.1.length 0 (mk0 g) (by omega) qnw.1 qnw.2;have hcc:c' =c:=by
      funext i;rw[Bool.eq_iff_iff,hcl i];exact⟨fun hi=>q8u.1 (hs i hi),fun hi=>ha i (q8u.2 hi)⟩
     subst hcc;have hL1:tz [] 0 0 σ.2.1 σ.2.2 true (g:Int) (σ.2.1.length:Int) [] (true,fb σ.2.1.length (mk0 g))=some (.inl (fb σ.2.1.length c')):=by
      rw[e1];exact ib hx1 (bm (by omega))
     have hL2:=q53 (by omega) (egs σ) e2 (by omega) c' [] 0 0 (g:Int) (σ.2.1.length:Int);rw[←e1]at hL2;have er:List.replicate σ.2.1.length (false:Bool)=fb σ.2.1.length fun _=>false:=qe6 _ _
     have e5:(List.replicate σ.2.1.length (false:Bool)).set g true=fb σ.2.1.length (mk0 g):=by
      rw[er,qg4];refine zf fun j _=> ?_
      unfold q1f mk0;by_cases hj:j=g
      ·rw[if_pos hj,decide_eq_true hj]
      ·rw[if_neg hj,decide_eq_false hj]
     have hlr:(List.replicate σ.2.1.length (false:Bool)).length=σ.2.1.length:=List.length_replicate;have hex:ao n m most=some (gEs c' (egs σ),(g:Int),(σ.2.1.length:Int),0):=by
      unfold ao;simp(disch:=omega)only[hE,hX,hF,hFd,hlr,e5,hL1,hL2,Bool.not_true,rs]
     have hGG:GG n m most.toNat σ σ.2.1.length g (egs σ) c' :=⟨hok,hfu,rfl,rfl,hM,hgl,hgs,hcl,htr⟩;obtain⟨x,hx⟩:=jbf hcl (σ.2.1.length:Int);have h0:(fb σ.2.1.length c').getD 0 false=c' 0:=tv hpos;have hlb:=xo σ.2.1.length c';cases hc0:c' 0 with
     |false=>
      rw[hc0]at hx h0;refine .none σ _ g _ c' hGG hc0 hex ⟨x,hx⟩ fun ts hts ht=> ?_
      have hT:=ta (ts:=ts) (by omega) n.2.1.length;rw[ht]at hT;unfold ci;simp(disch:=omega)only[hV,hK,hT,hRX,hRF,hRFd,hbk,hlb,h0,Bool.not_true,Bool.not_false,rs]
     |true=>
      rw[hc0]at hx h0;refine .ok σ _ g _ c' hGG hc0 hv hmk hex ⟨x,hx⟩ fun ts hts ht=> ?_
      have hT:=ta (ts:=ts) (by omega) n.2.1.length;rw[ht]at hT;unfold ci;rw[←e1,hfu];simp(disch:=omega)only[hV,hK,hT,hRX,hRF,hRFd,hbk,hlb,h0,Bool.not_true,Bool.not_false,rs]
theorem qr3{n:cj}(h:Small n)(htr:n.2.1.length≤20){m:List Int}(hl:m.length≤1000){ts:List af}(hts:ts.length≤1000)(most:Int):
  bp n m ts most=bif du ts n.2.1.length then ao n m most else some ([],0,0,1):=by
 have hV:=qb9 h;have hT:=q73 (n:=n) (ts:=ts) (by omega);have hE:=rv h m (by omega);unfold bp;cases hv:b9 n with
 |false=>
  rw[hv]at hV hE;have he:ao n m most=some ([],0,0,1):=by
   unfold ao;simp(disch:=omega)only[hE,Bool.false_and,rs]
  rw[he];simp(disch:=omega)only[hV,Bool.not_false,rs];cases du ts n.2.1.length<;>rfl
 |true=>
  rw[hv]at hV;cases ht:du ts n.2.1.length with
  |false=>
   rw[ht]at hT;simp(disch:=omega)only[hV,hT,Bool.not_true,Bool.not_false,rs]
  |true=>
   rw[ht]at hT;simp(disch:=omega)only[hV,hT,Bool.not_true,rs];cases ao n m most<;>rfl
theorem jan{n:cj}(h:Small n){m:List Int}(hl:m.length≤1000){ts:List af}(hts:ts.length≤1000)(ht:du ts n.2.1.length=false)(most:Int):ci n m ts most=some (zG,1):=by
 have hV:=qa6 h;have hK:=xa n m (by omega);have hT:=ta (ts:=ts) (by omega) n.2.1.length;rw[ht]at hT;unfold ci;cases hv:b9 n with
 |false=>
  rw[hv]at hV;simp(disch:=omega)only[hV,Bool.not_false,rs]
 |true=>
  rw[hv]at hV;cases hm:c8 n.1 m with
  |false=>
   rw[hm]at hK;simp(disch:=omega)only[hV,hK,Bool.not_true,Bool.not_false,rs]
  |true=>
   rw[hm]at hK;simp(disch:=omega)only[hV,hK,hT,Bool.not_true,Bool.not_false,rs]
end Go.Proofs.Ytokeielgplbdeaa
