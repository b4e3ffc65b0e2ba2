/-
  Freechoice: workflow nets: the program and the reference agree.
-/
import Derived.Test.YtclbndfjhjladaaGreatZ5PG5
set_option linter.all false
namespace Go.Proofs.YtclbndfjhjladaaGreat
open Go.K Go.M
inductive Rc (ts : List ae) (ip op : ae → List Int) (s : Nat) : Nat → Prop where
 | base : Rc ts ip op s s
 | step {t : ae} {x y : Int} : t ∈ ts → x ∈ ip t → Rc ts ip op s x.toNat → y ∈ op t → Rc ts ip op s y.toNat
def inT(back:Bool)(t:ae):List Int:=bif back then t.2.2.1 else t.2.1
def te(back:Bool)(t:ae):List Int:=inT (!back) t
theorem InB.ins{M:Nat}{ts:List ae}(h:InB M ts){i:Nat}(hi:i<ts.length)(back:Bool):(inT back (ts.getD i ae.z)).length≤60∧∀x∈inT back (ts.getD i ae.z),0≤x∧x<(M:Int):=by
 obtain⟨⟨h1,h2⟩,h3,h4⟩:=h _ (au ae.z hi);cases back with
 |false=>exact⟨h1,h3⟩
 |true=>exact⟨h2,h4⟩
def q3m(f:Nat→Bool)(l:List Int):Nat→Bool:=fun z=>f z||l.any fun y=>decide (y.toNat=z)
theorem jq7(f:Nat→Bool):q3m f []=f:=by funext z;simp[q3m]
theorem jnf(f:Nat→Bool)(l:List Int)(k:Nat)(h:k<l.length):qtw (q3m f (l.take k)) (l.getD k 0).toNat=q3m f (l.take (k+1)):=by
 funext z;unfold qtw q3m;rw[d7 l k 0 h,List.any_append];by_cases e:z=(l.getD k 0).toNat
 ·rw[if_pos e];simp[e]
 ·have e' :decide ((l.getD k 0).toNat=z)=false:=decide_eq_false (Ne.symm e);rw[if_neg e];simp only[List.any_cons,List.any_nil,e',Bool.or_false]
section
variable {M : Nat} {ts : List ae} (hM : M ≤ 100) (hT : ts.length ≤ 100) (hB : InB M ts) (back : Bool) (s : Nat)
include hM hT hB
theorem jaa{i:Nat}(hi:i<ts.length)(f:Nat→Bool)(b ch:Bool)(a c d e x:Int)(w:List ae)(g:List Bool):
  qec b ch w a c (te back (ts.getD i ae.z)) ((te back (ts.getD i ae.z)).length:Int) d ts e x g (0,bL M f)=some (.inl (bL M (q3m f (te back (ts.getD i ae.z))))):=by
 obtain⟨hl,hb⟩:=hB.ins hi (!back);unfold te;generalize inT (!back) (ts.getD i ae.z)=l at hl hb;refine cn (fun k=>((k:Int),bL M (q3m f (l.take k)))) l.length (bc (by omega)) _ (fun k hk=> ?_) ?_ _ ?_
 ·obtain⟨h1,h2⟩:=hb _ (au 0 hk);simp(disch:=omega)only[uy,qox,jgw,rs];rw[jnf f l k hk,ah]
 ·rw[List.take_length];simp(disch:=omega)only[uy,rs]
 ·simp only[List.take_zero,jq7];rfl
theorem jnw(l:List Int)(hl:l.length≤1000)(hb:∀x∈l,0≤x∧x<(M:Int))(f:Nat→Bool):c7 l (bL M f)=some (l.any fun x=>f x.toNat):=by
 have hL:oq l (bL M f) (l.length:Int) 0=some (q4y (fun i=>(i:Int)) (vx (fun x=>f x.toNat) l)):=by
  refine sq l 0 (fun x=>f x.toNat) (fun i=>(i:Int)) (by omega) (fun i hi=> ?_) ?_
  ·obtain⟨h1,h2⟩:=hb _ (au 0 hi);have h3:xa (l.getD i 0) (bL M f)=some (f (l.getD i 0).toNat):=by
    unfold xa;simp(disch:=omega)only[qox,q4i,rs]
   simp(disch:=omega)only[d3,h3,rs];rw[ah];exact qqx
  ·simp(disch:=omega)only[d3,rs]
 unfold c7 j5;rw[hL,ax,qe8,ax,qhk]
structure Mk (M : Nat) (ts : List ae) (back : Bool) (s : Nat) (f g : Nat → Bool) : Prop where
 src : f s = true
 snd : ∀ z, f z = true → Rc ts (inT back) (te back) s z
 tr : ∀ i, g i = true → i < ts.length ∧ (∃ x ∈ inT back (ts.getD i ae.z), f x.toNat = true) ∧ ∀ y ∈ te back (ts.getD i ae.z), f y.toNat = true
structure Swm (T : Nat) (back : Bool) (ts : List ae) (k : Nat) (f0 g0 : Nat → Bool) (m : Bool) (f g : Nat → Bool) : Prop where
 no : m = false → f = f0 ∧ g = g0 ∧ ∀ i, i < k → g0 i = true ∨ ∀ x ∈ inT back (ts.getD i ae.z), f0 x.toNat = false
 up : ∀ i, g0 i = true → g i = true
 yes : m = true → qk5 g T < qk5 g0 T
theorem jm6(a b c d:Int){f g:Nat→Bool}(h:Mk M ts back s f g):
  ∃m f' g',Mk M ts back s f' g' ∧Swm ts.length back ts ts.length f g m f' g' ∧qed back ts (ts.length:Int) a ts b c (false,0,bL ts.length g,bL M f)=some (.inl (m,bL ts.length g',bL M f')):=by
 have hL:∃o,qed back ts (ts.length:Int) a ts b c (false,0,bL ts.length g,bL M f)=some o∧∃m f' g',Mk M ts back s f' g' ∧Swm ts.length back ts ts.length f g m f' g' ∧o= .inl (m,bL ts.length g',bL M f'):=by
  refine og (fun(x:Bool×Int×List Bool×List Bool)=>∃(m:Bool) (j:Nat) (f' g' :Nat→Bool),x=(m,(j:Int),bL ts.length g',bL M f')∧j≤ts.length∧Mk M ts back s f' g' ∧Swm ts.length back ts j f g m f' g') (fun x=>ts.length-x.2.1.toNat) _ _ ⟨false,0,f,g,rfl,Nat.zero_le _,h,⟨fun _=>⟨rfl,rfl,fun i hi=>by omega⟩,fun _ h=>h,fun e=>by cases e⟩⟩ (by unfold many;simp;omega) ?_;rintro _ ⟨m,j,f',g',rfl,hj,hmk,hsw⟩;by_cases e:j=ts.length
  ·subst e;refine⟨.done (m,bL ts.length g',bL M f'),?_,m,f',g',hmk,hsw,rfl⟩;simp(disch:=omega)only[gb,rs]
  ·have hjl:j<ts.length:=by omega
   obtain⟨l1,hb1⟩:=hB.ins hjl back;have hcf:=jnw hM hT hB (inT back (ts.getD j ae.z)) (by omega) hb1 f';have stay:(g' j=true∨(inT back (ts.getD j ae.z)).any (fun x=>f' x.toNat)=false)→Swm ts.length back ts (j+1) f g m f' g' :=by
    intro hs;refine⟨fun e=> ?_,hsw.up,hsw.yes⟩;obtain⟨e1,e2,e3⟩:=hsw.no e;refine⟨e1,e2,fun i hi=> ?_⟩;by_cases e4:i=j
    ·subst e4;subst e1 e2;rcases hs with hs|hs
     ·exact .inl hs
     ·exact .inr fun x hx=>by have:=List.any_eq_false.1 hs x hx;simpa using this
    ·exact e3 i (by omega)
   by_cases hg:g' j=true
   ·refine⟨.next (m,((j+1:Nat):Int),bL ts.length g',bL M f'),?_,⟨m,j+1,f',g',rfl,by omega,hmk,stay (.inl hg)⟩,?_⟩
    ·cases back<;>(simp(disch:=omega)only[gb,qox,q4i,hg,cond_true,cond_false,ah,rs])
    ·simp only[Int.toNat_natCast];omega
   ·have hg:=(Bool.eq_false_iff).2 hg;cases ha:(inT back (ts.getD j ae.z)).any (fun x=>f' x.toNat)with
    |false=>
     rw[ha]at hcf;refine⟨.next (m,((j+1:Nat):Int),bL ts.length g',bL M f'),?_,⟨m,j+1,f',g',rfl,by omega,hmk,stay (.inr ha)⟩,?_⟩
     ·cases back with
      |false=>simp only[inT,cond_false]at hcf;simp(disch:=omega)only[gb,qox,q4i,hg,cond_true,cond_false,hcf,ah,rs]
      |true=>simp only[inT,cond_true]at hcf;simp(disch:=omega)only[gb,qox,q4i,hg,cond_true,cond_false,hcf,ah,rs]
     ·simp only[Int.toNat_natCast];omega
    |true=>
     rw[ha]at hcf;obtain⟨x,hx,hfx⟩:=List.any_eq_true.1 ha;have hsub:∀z,f' z=true→q3m f' (te back (ts.getD j ae.z)) z=true:=fun z hz=>by unfold q3m;rw[hz];rfl
     have hup:∀i,g' i=true→qtw g' j i=true:=fun i hi=>by unfold qtw;split;rfl;exact hi
     refine⟨.next (true,((j+1:Nat):Int),bL ts.length (qtw g' j),bL M (q3m f' (te back (ts.getD j ae.z)))),?_,⟨true,j+1,_,_,rfl,by omega,⟨hsub _ hmk.src,fun z hz=> ?_,fun i hi=> ?_⟩,⟨(fun e=>by cases e),fun i hi=>hup i (hsw.up i hi),fun _=> ?_⟩⟩,?_⟩
     ·cases back with
      |false=>
       have h0:=fun(v:Int)=>jaa hM hT hB false hjl f' false true (ts.length:Int) v a b c ts (bL ts.length (qtw g' j))
       simp only[inT,te,Bool.not_false,cond_true,cond_false]at hcf h0⊢;simp(disch:=omega)only[gb,qox,q4i,jgw,hg,cond_true,cond_false,hcf,Bool.not_true,h0,ah,rs]
      |true=>
       have h0:=fun(v:Int)=>jaa hM hT hB true hjl f' true true (ts.length:Int) v a b c ts (bL ts.length (qtw g' j))
       simp only[inT,te,Bool.not_true,cond_true,cond_false]at hcf h0⊢;simp(disch:=omega)only[gb,qox,q4i,jgw,hg,cond_true,cond_false,hcf,Bool.not_true,h0,ah,rs]
     ·unfold q3m at hz;simp only[Bool.or_eq_true,List.any_eq_true,decide_eq_true_eq]at hz;rcases hz with hz|⟨y,hy,rfl⟩
      ·exact hmk.snd z hz
      ·exact .step (au ae.z hjl) hx (hmk.snd _ hfx) hy
     ·unfold qtw at hi;split at hi
      ·rename_i e1;subst e1;refine⟨hjl,⟨x,hx,hsub _ hfx⟩,fun y hy=> ?_⟩;unfold q3m;simp only[Bool.or_eq_true,List.any_eq_true,decide_eq_true_eq];exact .inr ⟨y,hy,rfl⟩
      ·obtain⟨h1,⟨x2,h2,h3⟩,h4⟩:=hmk.tr i hi;exact⟨h1,⟨x2,h2,hsub _ h3⟩,fun y hy=>hsub _ (h4 y hy)⟩
     ·have h1:=jjm hup hjl hg (show qtw g' j j=true by unfold qtw;rw[if_pos rfl]);have h2:=qq5 hsw.up ts.length;omega
     ·simp only[Int.toNat_natCast];omega
 obtain⟨_,ho,m,f',g',h1,h2,rfl⟩:=hL;exact⟨m,f',g',h1,h2,ho⟩
theorem q6y(hs:s<M)(a b:Int):∃f g,nc ((M:Int),ts,a,b,()) (s:Int) back=some (bL M f,bL ts.length g)∧(∀z,f z=true↔Rc ts (inT back) (te back) s z)∧∀i,i<ts.length→(g i=true↔∃x∈inT back (ts.getD i ae.z),Rc ts (inT back) (te back) s x.toNat):=by
 have hL:∃o,qnr back (M:Int) ts a b (true,bL ts.length (fun _=>false),bL M (qtw (fun _=>false) s))=some o∧∃f g,Mk M ts back s f g∧(∀i,i<ts.length→g i=true∨∀x∈inT back (ts.getD i ae.z),f x.toNat=false)∧o= .inl (bL ts.length g,bL M f):=by
  have ecnt:∀g:Nat→Bool,qk5 (fun z=>(bL ts.length g).getD z false) ts.length=qk5 g ts.length:=by
   intro g;have:∀n,n≤ts.length→qk5 (fun z=>(bL ts.length g).getD z false) n=qk5 g n:=by
    intro n
    induction n with
    |zero=>intro _;rfl
    |succ n ih=>
     intro hn;unfold qk5;rw[ih (by omega)];simp only[q4i (f:=g) (show n<ts.length by omega)]
   exact this _ (Nat.le_refl _)
  refine og (fun(x:Bool×List Bool×List Bool)=>∃(m:Bool) (f g:Nat→Bool),x=(m,bL ts.length g,bL M f)∧Mk M ts back s f g∧(m=false→∀i,i<ts.length→g i=true∨∀x∈inT back (ts.getD i ae.z),f x.toNat=false)) (fun x=>2*qk5 (fun z=>x.2.1.getD z false) ts.length+x.1.toNat) _ _ ⟨true,_,_,rfl,⟨by unfold qtw;rw[if_pos rfl],fun z hz=> ?_,fun i hi=>by cases hi⟩,fun e=>by cases e⟩ ?_ ?_
  ·unfold qtw at hz;split at hz
   ·rename_i e;rw[e];exact .base
   ·cases hz
  ·have:=jjl (fun z=>(bL ts.length (fun _=>false)).getD z false) ts.length;unfold many;simp only[Bool.toNat_true];omega
  ·rintro _ ⟨m,f,g,rfl,hmk,hm⟩;cases m with
   |false=>exact⟨.done (bL ts.length g,bL M f),rfl,f,g,hmk,hm rfl,rfl⟩
   |true=>
    obtain⟨m',f',g',h1,h2,h3⟩:=jm6 hM hT hB back s (M:Int) a b 0 hmk;refine⟨.next (m',bL ts.length g',bL M f'),?_,⟨m',f',g',rfl,h1,fun e=> ?_⟩,?_⟩
    ·unfold qb5;simp only[cond_true];rw[h3];rfl
    ·obtain⟨e1,e2,e3⟩:=h2.no e;rw[e1,e2];exact e3
    ·simp only[ecnt,Bool.toNat_true];cases m' with
     |false=>have:=qq5 h2.up ts.length;simp;omega
     |true=>have:=h2.yes rfl;simp only[Bool.toNat_true];omega
 obtain⟨_,ho,f,g,hmk,hcl,rfl⟩:=hL;have hfr:∀z,f z=true↔Rc ts (inT back) (te back) s z:=by
  refine fun z=>⟨hmk.snd z,fun h=> ?_⟩
  induction h with
  |base=>exact hmk.src
  |step ht hx _ hy ih=>
   obtain⟨i,hi,rfl⟩:=t8 ae.z ht;rcases hcl i hi with h1|h1
   ·exact(hmk.tr i h1).2.2 _ hy
   ·rw[h1 _ hx]at ih;cases ih
 refine⟨f,g,?_,hfr,fun i hi=>⟨fun h=> ?_,fun⟨x,hx,h⟩=> ?_⟩⟩
 ·have e1:(List.replicate M false).set s true=bL M (qtw (fun _=>false) s):=by rw[qfj];exact qr
  have e2:List.replicate ts.length false=bL ts.length (fun _=>false):=qfj _ _;unfold nc;simp(disch:=omega)only[List.length_replicate,e1,e2,rs];rw[ho];rfl
 ·obtain⟨_,⟨x,hx,h1⟩,_⟩:=hmk.tr i h;exact⟨x,hx,(hfr _).1 h1⟩
 ·rcases hcl i hi with h1|h1
  ·exact h1
  ·have:=h1 x hx;rw[(hfr _).2 h]at this;cases this
end
end Go.Proofs.YtclbndfjhjladaaGreat
