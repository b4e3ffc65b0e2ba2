/-
  Freechoice: workflow nets: the program and the reference agree.
-/
import Derived.Test.YtclbndfjhjladaaGreatZ4G5
set_option linter.all false
namespace Go.Proofs.YtclbndfjhjladaaGreat
open Go.K Go.M
inductive Rc (ts : List af) (ip op : af → List Int) (s : Nat) : Nat → Prop where
 | base : Rc ts ip op s s
 | step {t : af} {x y : Int} : t ∈ ts → x ∈ ip t → Rc ts ip op s x.toNat → y ∈ op t → Rc ts ip op s y.toNat
def inT(back:Bool)(t:af):List Int:=bif back then t.2.2.1 else t.2.1
def uz(back:Bool)(t:af):List Int:=inT (!back) t
theorem InB.ins{M:Nat}{ts:List af}(h:InB M ts){i:Nat}(hi:i<ts.length)(back:Bool):(inT back (ts.getD i af.z)).length≤60∧∀x∈inT back (ts.getD i af.z),0≤x∧x<(M:Int):=by
 obtain⟨⟨h1,h2⟩,h3,h4⟩:=h _ (ao af.z hi);cases back with
 |false=>exact⟨h1,h3⟩
 |true=>exact⟨h2,h4⟩
def jah(f:Nat→Bool)(l:List Int):Nat→Bool:=fun z=>f z||l.any fun y=>decide (y.toNat=z)
theorem jyz(f:Nat→Bool):jah f []=f:=by funext z;simp[jah]
theorem jvi(f:Nat→Bool)(l:List Int)(k:Nat)(h:k<l.length):qbb (jah f (l.take k)) (l.getD k 0).toNat=jah f (l.take (k+1)):=by
 funext z;unfold qbb jah;rw[ct l k 0 h,List.any_append];by_cases e:z=(l.getD k 0).toNat
 ·rw[if_pos e];simp[e]
 ·have e' :decide ((l.getD k 0).toNat=z)=false:=decide_eq_false (Ne.symm e);rw[if_neg e];simp only[List.any_cons,List.any_nil,e',Bool.or_false]
section
variable {M : Nat} {ts : List af} (hM : M ≤ 100) (hT : ts.length ≤ 100) (hB : InB M ts) (back : Bool) (s : Nat)
include hM hT hB
theorem jh2{i:Nat}(hi:i<ts.length)(f:Nat→Bool)(b ch:Bool)(a c d e x:Int)(w:List af)(g:List Bool):
  qe6 b ch w a c (uz back (ts.getD i af.z)) ((uz back (ts.getD i af.z)).length:Int) d ts e x g (0,bL M f)=some (.inl (bL M (jah f (uz back (ts.getD i af.z))))):=by
 obtain⟨hl,hb⟩:=hB.ins hi (!back);unfold uz;generalize inT (!back) (ts.getD i af.z)=l at hl hb;refine a9 (fun k=>((k:Int),bL M (jah f (l.take k)))) l.length (aw (by omega)) _ (fun k hk=> ?_) ?_ _ ?_
 ·obtain⟨h1,h2⟩:=hb _ (ao 0 hk);simp(disch:=omega)only[ug,pf,jiy,rs];rw[jvi f l k hk,ag]
 ·rw[List.take_length];simp(disch:=omega)only[ug,rs]
 ·simp only[List.take_zero,jyz];rfl
theorem jv2(l:List Int)(hl:l.length≤1000)(hb:∀x∈l,0≤x∧x<(M:Int))(f:Nat→Bool):cw l (bL M f)=some (l.any fun x=>f x.toNat):=by
 have hL:n9 l (bL M f) (l.length:Int) 0=some (jfr (fun i=>(i:Int)) (qba (fun x=>f x.toNat) l)):=by
  refine ua l 0 (fun x=>f x.toNat) (fun i=>(i:Int)) (by omega) (fun i hi=> ?_) ?_
  ·obtain⟨h1,h2⟩:=hb _ (ao 0 hi);have h3:wo (l.getD i 0) (bL M f)=some (f (l.getD i 0).toNat):=by
    unfold wo;simp(disch:=omega)only[pf,qij,rs]
   simp(disch:=omega)only[dp,h3,rs];rw[ag];exact qm0
  ·simp(disch:=omega)only[dp,rs]
 unfold cw jb;rw[hL,au,qis,au,qir]
structure Mk (M : Nat) (ts : List af) (back : Bool) (s : Nat) (f g : Nat → Bool) : Prop where
 src : f s = true
 snd : ∀ z, f z = true → Rc ts (inT back) (uz back) s z
 tr : ∀ i, g i = true → i < ts.length ∧ (∃ x ∈ inT back (ts.getD i af.z), f x.toNat = true) ∧ ∀ y ∈ uz back (ts.getD i af.z), f y.toNat = true
structure Swm (T : Nat) (back : Bool) (ts : List af) (k : Nat) (f0 g0 : Nat → Bool) (m : Bool) (f g : Nat → Bool) : Prop where
 no : m = false → f = f0 ∧ g = g0 ∧ ∀ i, i < k → g0 i = true ∨ ∀ x ∈ inT back (ts.getD i af.z), f0 x.toNat = false
 up : ∀ i, g0 i = true → g i = true
 yes : m = true → qey g T < qey g0 T
theorem ju5(a b c d:Int){f g:Nat→Bool}(h:Mk M ts back s f g):
  ∃m f' g',Mk M ts back s f' g' ∧Swm ts.length back ts ts.length f g m f' g' ∧qe7 back ts (ts.length:Int) a ts b c (false,0,bL ts.length g,bL M f)=some (.inl (m,bL ts.length g',bL M f')):=by
 have hL:∃o,qe7 back ts (ts.length:Int) a ts b c (false,0,bL ts.length g,bL M f)=some o∧∃m f' g',Mk M ts back s f' g' ∧Swm ts.length back ts ts.length f g m f' g' ∧o= .inl (m,bL ts.length g',bL M f'):=by
  refine da (fun(x:Bool×Int×List Bool×List Bool)=>∃(m:Bool) (j:Nat) (f' g' :Nat→Bool),x=(m,(j:Int),bL ts.length g',bL M f')∧j≤ts.length∧Mk M ts back s f' g' ∧Swm ts.length back ts j f g m f' g') (fun x=>ts.length-x.2.1.toNat) _ _ ⟨false,0,f,g,rfl,Nat.zero_le _,h,⟨fun _=>⟨rfl,rfl,fun i hi=>by omega⟩,fun _ h=>h,fun e=>by cases e⟩⟩ (by unfold many;simp;omega) ?_;rintro _ ⟨m,j,f',g',rfl,hj,hmk,hsw⟩;by_cases e:j=ts.length
  ·subst e;refine⟨.done (m,bL ts.length g',bL M f'),?_,m,f',g',hmk,hsw,rfl⟩;simp(disch:=omega)only[fl,rs]
  ·have hjl:j<ts.length:=by omega
   obtain⟨l1,hb1⟩:=hB.ins hjl back;have hcf:=jv2 hM hT hB (inT back (ts.getD j af.z)) (by omega) hb1 f';have stay:(g' j=true∨(inT back (ts.getD j af.z)).any (fun x=>f' x.toNat)=false)→Swm ts.length back ts (j+1) f g m f' g' :=by
    intro hs;refine⟨fun e=> ?_,hsw.up,hsw.yes⟩;obtain⟨e1,e2,e3⟩:=hsw.no e;refine⟨e1,e2,fun i hi=> ?_⟩;by_cases e4:i=j
    ·subst e4;subst e1 e2;rcases hs with hs|hs
     ·exact .inl hs
     ·exact .inr fun x hx=>by have:=List.any_eq_false.1 hs x hx;simpa using this
    ·exact e3 i (by omega)
   by_cases hg:g' j=true
   ·refine⟨.next (m,((j+1:Nat):Int),bL ts.length g',bL M f'),?_,⟨m,j+1,f',g',rfl,by omega,hmk,stay (.inl hg)⟩,?_⟩
    ·cases back<;>(simp(disch:=omega)only[fl,pf,qij,hg,cond_true,cond_false,ag,rs])
    ·simp only[Int.toNat_natCast];omega
   ·have hg:=(Bool.eq_false_iff).2 hg;cases ha:(inT back (ts.getD j af.z)).any (fun x=>f' x.toNat)with
    |false=>
     rw[ha]at hcf;refine⟨.next (m,((j+1:Nat):Int),bL ts.length g',bL M f'),?_,⟨m,j+1,f',g',rfl,by omega,hmk,stay (.inr ha)⟩,?_⟩
     ·cases back with
      |false=>simp only[inT,cond_false]at hcf;simp(disch:=omega)only[fl,pf,qij,hg,cond_true,cond_false,hcf,ag,rs]
      |true=>simp only[inT,cond_true]at hcf;simp(disch:=omega)only[fl,pf,qij,hg,cond_true,cond_false,hcf,ag,rs]
     ·simp only[Int.toNat_natCast];omega
    |true=>
     rw[ha]at hcf;obtain⟨x,hx,hfx⟩:=List.any_eq_true.1 ha;have hsub:∀z,f' z=true→jah f' (uz back (ts.getD j af.z)) z=true:=fun z hz=>by unfold jah;rw[hz];rfl
     have hup:∀i,g' i=true→qbb g' j i=true:=fun i hi=>by unfold qbb;split;rfl;exact hi
     refine⟨.next (true,((j+1:Nat):Int),bL ts.length (qbb g' j),bL M (jah f' (uz back (ts.getD j af.z)))),?_,⟨true,j+1,_,_,rfl,by omega,⟨hsub _ hmk.src,fun z hz=> ?_,fun i hi=> ?_⟩,⟨(fun e=>by cases e),fun i hi=>hup i (hsw.up i hi),fun _=> ?_⟩⟩,?_⟩
     ·cases back with
      |false=>
       have h0:=fun(v:Int)=>jh2 hM hT hB false hjl f' false true (ts.length:Int) v a b c ts (bL ts.length (qbb g' j))
       simp only[inT,uz,Bool.not_false,cond_true,cond_false]at hcf h0⊢;simp(disch:=omega)only[fl,pf,qij,jiy,hg,cond_true,cond_false,hcf,Bool.not_true,h0,ag,rs]
      |true=>
       have h0:=fun(v:Int)=>jh2 hM hT hB true hjl f' true true (ts.length:Int) v a b c ts (bL ts.length (qbb g' j))
       simp only[inT,uz,Bool.not_true,cond_true,cond_false]at hcf h0⊢;simp(disch:=omega)only[fl,pf,qij,jiy,hg,cond_true,cond_false,hcf,Bool.not_true,h0,ag,rs]
     ·unfold jah at hz;simp only[Bool.or_eq_true,List.any_eq_true,decide_eq_true_eq]at hz;rcases hz with hz|⟨y,hy,rfl⟩
      ·exact hmk.snd z hz
      ·exact .step (ao af.z hjl) hx (hmk.snd _ hfx) hy
     ·unfold qbb at hi;split at hi
      ·rename_i e1;subst e1;refine⟨hjl,⟨x,hx,hsub _ hfx⟩,fun y hy=> ?_⟩;unfold jah;simp only[Bool.or_eq_true,List.any_eq_true,decide_eq_true_eq];exact .inr ⟨y,hy,rfl⟩
      ·obtain⟨h1,⟨x2,h2,h3⟩,h4⟩:=hmk.tr i hi;exact⟨h1,⟨x2,h2,hsub _ h3⟩,fun y hy=>hsub _ (h4 y hy)⟩
     ·have h1:=jap hup hjl hg (show qbb g' j j=true by unfold qbb;rw[if_pos rfl]);have h2:=quc hsw.up ts.length;omega
     ·simp only[Int.toNat_natCast];omega
 obtain⟨_,ho,m,f',g',h1,h2,rfl⟩:=hL;exact⟨m,f',g',h1,h2,ho⟩
theorem jdj(hs:s<M)(a b:Int):∃f g,mq ((M:Int),ts,a,b,()) (s:Int) back=some (bL M f,bL ts.length g)∧(∀z,f z=true↔Rc ts (inT back) (uz back) s z)∧∀i,i<ts.length→(g i=true↔∃x∈inT back (ts.getD i af.z),Rc ts (inT back) (uz back) s x.toNat):=by
 have hL:∃o,qpi back (M:Int) ts a b (true,bL ts.length (fun _=>false),bL M (qbb (fun _=>false) s))=some o∧∃f g,Mk M ts back s f g∧(∀i,i<ts.length→g i=true∨∀x∈inT back (ts.getD i af.z),f x.toNat=false)∧o= .inl (bL ts.length g,bL M f):=by
  have ecnt:∀g:Nat→Bool,qey (fun z=>(bL ts.length g).getD z false) ts.length=qey g ts.length:=by
   intro g;have:∀n,n≤ts.length→qey (fun z=>(bL ts.length g).getD z false) n=qey g n:=by
    intro n
    induction n with
    |zero=>intro _;rfl
    |succ n ih=>
     intro hn;unfold qey;rw[ih (by omega)];simp only[qij (f:=g) (show n<ts.length by omega)]
   exact this _ (Nat.le_refl _)
  refine da (fun(x:Bool×List Bool×List Bool)=>∃(m:Bool) (f g:Nat→Bool),x=(m,bL ts.length g,bL M f)∧Mk M ts back s f g∧(m=false→∀i,i<ts.length→g i=true∨∀x∈inT back (ts.getD i af.z),f x.toNat=false)) (fun x=>2*qey (fun z=>x.2.1.getD z false) ts.length+x.1.toNat) _ _ ⟨true,_,_,rfl,⟨by unfold qbb;rw[if_pos rfl],fun z hz=> ?_,fun i hi=>by cases hi⟩,fun e=>by cases e⟩ ?_ ?_
  ·unfold qbb at hz;split at hz
   ·rename_i e;rw[e];exact .base
   ·cases hz
  ·have:=jja (fun z=>(bL ts.length (fun _=>false)).getD z false) ts.length;unfold many;simp only[Bool.toNat_true];omega
  ·rintro _ ⟨m,f,g,rfl,hmk,hm⟩;cases m with
   |false=>exact⟨.done (bL ts.length g,bL M f),rfl,f,g,hmk,hm rfl,rfl⟩
   |true=>
    obtain⟨m',f',g',h1,h2,h3⟩:=ju5 hM hT hB back s (M:Int) a b 0 hmk;refine⟨.next (m',bL ts.length g',bL M f'),?_,⟨m',f',g',rfl,h1,fun e=> ?_⟩,?_⟩
    ·unfold qco;simp only[cond_true];rw[h3];rfl
    ·obtain⟨e1,e2,e3⟩:=h2.no e;rw[e1,e2];exact e3
    ·simp only[ecnt,Bool.toNat_true];cases m' with
     |false=>have:=quc h2.up ts.length;simp;omega
     |true=>have:=h2.yes rfl;simp only[Bool.toNat_true];omega
 obtain⟨_,ho,f,g,hmk,hcl,rfl⟩:=hL;have hfr:∀z,f z=true↔Rc ts (inT back) (uz back) s z:=by
  refine fun z=>⟨hmk.snd z,fun h=> ?_⟩
  induction h with
  |base=>exact hmk.src
  |step ht hx _ hy ih=>
   obtain⟨i,hi,rfl⟩:=tj af.z ht;rcases hcl i hi with h1|h1
   ·exact(hmk.tr i h1).2.2 _ hy
   ·rw[h1 _ hx]at ih;cases ih
 refine⟨f,g,?_,hfr,fun i hi=>⟨fun h=> ?_,fun⟨x,hx,h⟩=> ?_⟩⟩
 ·have e1:(List.replicate M false).set s true=bL M (qbb (fun _=>false) s):=by rw[qa9];exact ml
  have e2:List.replicate ts.length false=bL ts.length (fun _=>false):=qa9 _ _;unfold mq;simp(disch:=omega)only[List.length_replicate,e1,e2,rs];rw[ho];rfl
 ·obtain⟨_,⟨x,hx,h1⟩,_⟩:=hmk.tr i h;exact⟨x,hx,(hfr _).1 h1⟩
 ·rcases hcl i hi with h1|h1
  ·exact h1
  ·have:=h1 x hx;rw[(hfr _).2 h]at this;cases this
end
end Go.Proofs.YtclbndfjhjladaaGreat
