/-
  Distances to a state in a graph, by relaxing: what is best over all walks. No program is named.
-/
import Derived.Test.YtokeielgplbdeaaZ8N6
set_option linter.all false
namespace Go.Proofs.Ytokeielgplbdeaa
open Go.K Go.M
abbrev Eg:Type:=Nat×Nat×Nat
abbrev xf:Type:=Int×Int
abbrev p0:Type:=Nat→Option xf
def sg(sl:Bool)(T:Int):Int:=if sl then-T else T
def leV(sl:Bool)(a b:xf):Prop:=sg sl a.1<sg sl b.1∨(a.1=b.1∧a.2≤b.2)
def ltB(sl:Bool)(a b:xf):Bool:=if a.1=b.1 then decide (a.2<b.2)else(decide (a.1<b.1) !=sl)
theorem qyc{sl:Bool}{a b:xf}:ltB sl a b=true↔¬leV sl b a:=by
 unfold ltB leV sg;cases sl<;>by_cases h:a.1=b.1<;>simp[h]<;>omega
theorem qyd{sl:Bool}{a b:xf}:ltB sl a b=false↔leV sl b a:=by
 cases h:ltB sl a b with
 |true=>
  have:=qyc.1 h;exact⟨(fun e=>by cases e),fun e=>absurd e this⟩
 |false=>exact⟨fun _=>Classical.byContradiction fun hn=>(by rw[qyc.2 hn]at h;cases h),fun _=>rfl⟩
theorem qg1{sl:Bool}(a:xf):leV sl a a:= .inr ⟨rfl,Int.le_refl _⟩
theorem ss{sl:Bool}{a b c:xf}(h:leV sl a b)(h' :leV sl b c):leV sl a c:=by
 unfold leV sg at*;cases sl<;>simp at* <;>omega
theorem qly{sl:Bool}{a b:xf}(h:leV sl a b)(h' :leV sl b a):a=b:=by
 obtain⟨a1,a2⟩:=a;obtain⟨b1,b2⟩:=b;unfold leV sg at*;cases sl<;>simp at* <;>omega
theorem q7o{sl:Bool}(a b:xf):leV sl a b∨leV sl b a:=by
 unfold leV sg;cases sl<;>simp<;>omega
theorem jni{sl:Bool}{a b:xf}(h:ltB sl a b=true):leV sl a b:=(q7o a b).resolve_right (qyc.1 h)
def yx(w:Int)(a:xf):xf:=(a.1+w,a.2+1)
theorem qlx{sl:Bool}{a b:xf}(w:Int)(h:leV sl a b):leV sl (yx w a) (yx w b):=by
 unfold leV sg yx at*;cases sl<;>simp at* <;>omega
section
variable (E : Eg → Prop) (w : Nat → Int) (g : Nat)
inductive Wk : Nat → xf → Prop
 | nil : Wk g (0, 0)
 | cons {a b t : Nat} {v : xf} : E (a, b, t) → Wk b v → Wk a (yx (w t) v)
variable (sl : Bool)
def Snd(d:p0):Prop:=∀i v,d i=some v→Wk E w g i v
def Atl(k:Nat)(d:p0):Prop:=∀i v,Wk E w g i v→v.2≤(k:Int)→∃v',d i=some v' ∧leV sl v' v
def Opt(d:p0):Prop:=∀i v,Wk E w g i v→∃v',d i=some v' ∧leV sl v' v
end
section
variable {E : Eg → Prop} {w : Nat → Int} {g : Nat} {sl : Bool}
theorem Wk.pos{i:Nat}{v:xf}(h:Wk E w g i v):0≤v.2:=by
 induction h with
 |nil=>exact Int.le_refl _
 |cons _ _ ih=>simp only[yx];omega
theorem Wk.sub{E' :Eg→Prop}(hE:∀e,E e→E' e){i:Nat}{v:xf}(h:Wk E w g i v):Wk E' w g i v:=by
 induction h with
 |nil=>exact .nil
 |cons he _ ih=>exact .cons (hE _ he) ih
theorem zo{d d' :p0}(h1:Snd E w g d)(h2:Opt E w g sl d)(h1' :Snd E w g d')(h2' :Opt E w g sl d'):d=d' :=by
 funext i;cases hd:d i with
 |some v=>
  obtain⟨v',e1,l1⟩:=h2' i v (h1 i v hd);obtain⟨v'',e2,l2⟩:=h2 i v' (h1' i v' e1);rw[hd]at e2;cases e2;rw[e1,qly l2 l1]
 |none=>
  cases hd' :d' i with
  |none=>rfl
  |some v' =>
   obtain⟨v,e,_⟩:=h2 i v' (h1' i v' hd');rw[hd]at e;cases e
def q3p(d:p0)(i:Nat)(v:xf):p0:=fun j=>if j=i then some v else d j
def y5(w:Nat→Int)(sl:Bool)(d:p0)(e:Eg):Bool:=
 match d e.2.1 with
 |some v=>(match d e.1 with|some u=>ltB sl (yx (w e.2.2) v) u|none=>true)
 |none=>false
def rlx(w:Nat→Int)(sl:Bool)(d:p0)(e:Eg):p0:=
 match d e.2.1 with
 |some v=>bif y5 w sl d e then q3p d e.1 (yx (w e.2.2) v)else d
 |none=>d
def yi(w:Nat→Int)(sl:Bool)(s:Bool×p0)(e:Eg):Bool×p0:=(s.1||y5 w sl s.2 e,rlx w sl s.2 e)
abbrev pass(w:Nat→Int)(sl:Bool)(L:List Eg)(s:Bool×p0):Bool×p0:=L.foldl (yi w sl) s
def Imp(sl:Bool)(d d' :p0):Prop:=∀i v,d i=some v→∃v',d' i=some v' ∧leV sl v' v
theorem Imp.refl(d:p0):Imp sl d d:=fun _ v h=>⟨v,h,qg1 v⟩
theorem Imp.trans{a b c:p0}(h:Imp sl a b)(h' :Imp sl b c):Imp sl a c:=fun i v hv=>by
 obtain⟨v',e1,l1⟩:=h i v hv;obtain⟨v'',e2,l2⟩:=h' i v' e1;exact⟨v'',e2,ss l2 l1⟩
theorem qmx{d:p0}{e:Eg}(h:d e.2.1=none):rlx w sl d e=d∧y5 w sl d e=false:=by
 unfold rlx y5;rw[h];exact⟨rfl,rfl⟩
theorem qa7{d:p0}{e:Eg}(h:y5 w sl d e=false):rlx w sl d e=d:=by
 unfold rlx;rw[h];cases d e.2.1<;>rfl
theorem q54(d:p0)(e:Eg):Imp sl d (rlx w sl d e):=by
 cases hi:y5 w sl d e with
 |false=>rw[qa7 hi];exact Imp.refl d
 |true=>
  unfold rlx;rw[hi];cases hv:d e.2.1 with
  |none=>exact Imp.refl d
  |some v=>
   intro i u hu;show∃v',(if i=e.1 then some (yx (w e.2.2) v)else d i)=some v' ∧_;by_cases h:i=e.1
   ·rw[if_pos h];refine⟨_,rfl,?_⟩;unfold y5 at hi;rw[hv,←h,hu]at hi;exact jni hi
   ·rw[if_neg h];exact⟨u,hu,qg1 u⟩
theorem jeb{d:p0}{e:Eg}(hd:Snd E w g d)(he:E e):Snd E w g (rlx w sl d e):=by
 cases hi:y5 w sl d e with
 |false=>rw[qa7 hi];exact hd
 |true=>
  unfold rlx;rw[hi];cases hv:d e.2.1 with
  |none=>exact hd
  |some v=>
   intro i u hu;have hu:(if i=e.1 then some (yx (w e.2.2) v)else d i)=some u:=hu;by_cases h:i=e.1
   ·rw[if_pos h]at hu;cases hu;rw[h];exact Wk.cons (show E (e.1,e.2.1,e.2.2)from he) (hd _ _ hv)
   ·rw[if_neg h]at hu;exact hd i u hu
theorem jkd{d:p0}{e:Eg}{v:xf}(hv:d e.2.1=some v):∃v',rlx w sl d e e.1=some v' ∧leV sl v' (yx (w e.2.2) v):=by
 cases hi:y5 w sl d e with
 |true=>
  unfold rlx;rw[hi,hv];exact⟨_,if_pos rfl,qg1 _⟩
 |false=>
  rw[qa7 hi];unfold y5 at hi;rw[hv]at hi;cases hu:d e.1 with
  |none=>rw[hu]at hi;cases hi
  |some u=>rw[hu]at hi;exact⟨u,rfl,qyd.1 hi⟩
theorem qsz:∀(L:List Eg) (s:Bool×p0),Imp sl s.2 (pass w sl L s).2
 |[],s=>Imp.refl _
 |e::L,s=>(q54 s.2 e).trans (qsz L (yi w sl s e))
theorem qmc:∀(L:List Eg) (s:Bool×p0),(∀e∈L,E e∨(∀v,¬Wk E w g e.2.1 v))→Snd E w g s.2→Snd E w g (pass w sl L s).2
 |[],s,_,h=>h
 |e::L,s,hL,h=>by
  refine qmc L (yi w sl s e) (fun e' he' =>hL e' (List.mem_cons_of_mem _ he')) ?_;rcases hL e List.mem_cons_self with he|hn
  ·exact jeb h he
  ·have:s.2 e.2.1=none:=by
    cases hv:s.2 e.2.1 with
    |none=>rfl
    |some v=>exact absurd (h _ _ hv) (hn v)
   show Snd E w g (rlx w sl s.2 e);rw[(qmx this).1];exact h
theorem q5x:∀(L:List Eg) (s:Bool×p0) (e:Eg),e∈L→∀v,s.2 e.2.1=some v→∃v',(pass w sl L s).2 e.1=some v' ∧leV sl v' (yx (w e.2.2) v)
 |[],s,e,he,_,_=>by cases he
 |e' ::L,s,e,he,v,hv=>by
  rcases List.mem_cons.1 he with rfl|he
  ·obtain⟨v1,e1,l1⟩:=jkd (w:=w) (sl:=sl) hv;obtain⟨v2,e2,l2⟩:=qsz (w:=w) (sl:=sl) L (yi w sl s e) e.1 v1 e1;exact⟨v2,e2,ss l2 l1⟩
  ·obtain⟨v1,e1,l1⟩:=q54 (w:=w) (sl:=sl) s.2 e' e.2.1 v hv;obtain⟨v2,e2,l2⟩:=q5x L (yi w sl s e') e he v1 e1;exact⟨v2,e2,ss l2 (qlx _ l1)⟩
theorem qsy{L:List Eg}{s:Bool×p0}{k:Nat}(hL:∀e,E e→e∈L)(h:Atl E w g sl k s.2):Atl E w g sl (k+1) (pass w sl L s).2:=by
 intro i v hw hk;cases hw with
 |nil=>
  obtain⟨v1,e1,l1⟩:=h g (0,0) .nil (Int.natCast_nonneg k);obtain⟨v2,e2,l2⟩:=qsz (w:=w) (sl:=sl) L s _ _ e1;exact⟨v2,e2,ss l2 l1⟩
 | @cons _ b t u he hw' =>
  obtain⟨v1,e1,l1⟩:=h b u hw' (by simp only[yx]at hk;omega);obtain⟨v2,e2,l2⟩:=q5x (w:=w) (sl:=sl) L s (i,b,t) (hL _ he) v1 e1;exact⟨v2,e2,ss l2 (qlx _ l1)⟩
theorem qn3:∀(L:List Eg) (s:Bool×p0),(pass w sl L s).1=false→s.1=false∧(pass w sl L s).2=s.2∧∀e∈L,y5 w sl s.2 e=false
 |[],s,h=>⟨h,rfl,fun e he=>by cases he⟩
 |e::L,s,h=>by
  obtain⟨h1,h2,h3⟩:=qn3 L (yi w sl s e) h;have h1:(s.1||y5 w sl s.2 e)=false:=h1;rw[Bool.or_eq_false_iff]at h1;have h4:(yi w sl s e).2=s.2:=qa7 h1.2;refine⟨h1.1,h2.trans h4,fun e' he' => ?_⟩;rcases List.mem_cons.1 he' with rfl|he'
  ·exact h1.2
  ·rw[←h4];exact h3 e' he'
theorem q1j{L:List Eg}{d:p0}(hL:∀e,E e→e∈L)(h0:Atl E w g sl 0 d)(h:∀e∈L,y5 w sl d e=false):Opt E w g sl d:=by
 intro i v hw
 induction hw with
 |nil=>exact h0 g (0,0) .nil (Int.le_refl _)
 | @cons a b t u he hw' ih=>
  obtain⟨v1,e1,l1⟩:=ih;have h2:=h _ (hL _ he);unfold y5 at h2;simp only[]at h2;rw[e1]at h2;cases hu:d a with
  |none=>rw[hu]at h2;cases h2
  |some u' =>
   rw[hu]at h2;exact⟨u',rfl,ss (qyd.1 h2) (qlx _ l1)⟩
theorem ja6{d:p0}{e:Eg}(hs:Snd E w g d)(ho:Opt E w g sl d)(he:E e∨d e.2.1=none):y5 w sl d e=false:=by
 rcases he with he|he
 ·unfold y5;cases hv:d e.2.1 with
  |none=>rfl
  |some v=>
   obtain⟨u,hu,l⟩:=ho e.1 _ (Wk.cons (show E (e.1,e.2.1,e.2.2)from he) (hs _ _ hv));simp only[hu];exact qyd.2 l
 ·exact(qmx (w:=w) (sl:=sl) he).2
theorem q08{d:p0}:∀{L:List Eg} {b:Bool},(∀e∈L,E e∨(∀v,¬Wk E w g e.2.1 v))→Snd E w g d→Opt E w g sl d→pass w sl L (b,d)=(b,d)
 |[],b,_,_,_=>rfl
 |e::L,b,hL,hs,ho=>by
  have h1:y5 w sl d e=false:=ja6 hs ho ((hL e List.mem_cons_self).imp id fun hn=>by
   cases hv:d e.2.1 with
   |none=>rfl
   |some v=>exact absurd (hs _ _ hv) (hn v))
  have h2:yi w sl (b,d) e=(b,d):=by
   unfold yi;simp only[h1,Bool.or_false,qa7 h1]
  show pass w sl L (yi w sl (b,d) e)=_;rw[h2];exact q08 (fun e' he' =>hL e' (List.mem_cons_of_mem _ he')) hs ho
def tj(E:Eg→Prop):Nat→List Eg→Nat→Prop
 |i,[],j=>i=j
 |i,e::l,j=>e.1=i∧E e∧tj E e.2.1 l j
def wtL(w:Nat→Int)(l:List Eg):Int:=q38 (fun e:Eg=>w e.2.2) l
theorem rm(w:Nat→Int)(e:Eg)(l:List Eg):wtL w (e::l)=w e.2.2+wtL w l:=rfl
theorem tj.app{E:Eg→Prop}{j:Nat}:∀{l l' :List Eg} {i:Nat},tj E i (l++l') j↔∃k,tj E i l k∧tj E k l' j
 |[],l',i=>⟨fun h=>⟨i,rfl,h⟩,fun⟨k,h1,h2⟩=>by rw[show i=k from h1];exact h2⟩
 |e::l,l',i=>by
  constructor
  ·rintro⟨h1,h2,h3⟩;obtain⟨k,h4,h5⟩:=tj.app.1 h3;exact⟨k,⟨h1,h2,h4⟩,h5⟩
  ·rintro⟨k,⟨h1,h2,h4⟩,h5⟩;exact⟨h1,h2,tj.app.2 ⟨k,h4,h5⟩⟩
theorem qfb{i:Nat}{v:xf}(h:Wk E w g i v):∃l,tj E i l g∧v=(wtL w l,(l.length:Int)):=by
 induction h with
 |nil=>exact⟨[],rfl,rfl⟩
 | @cons a b t u he _ ih=>
  obtain⟨l,h1,rfl⟩:=ih;refine⟨(a,b,t)::l,⟨rfl,he,h1⟩,?_⟩;rw[rm];unfold yx;simp only[List.length_cons,Int.natCast_add,Prod.mk.injEq];exact⟨by omega,by omega⟩
theorem qaq:∀{l:List Eg} {i:Nat},tj E i l g→Wk E w g i (wtL w l,(l.length:Int))
 |[],i,h=>by rw[show i=g from h];exact .nil
 |e::l,i,⟨h1,h2,h3⟩=>by
  have:=Wk.cons (w:=w) (show E (e.1,e.2.1,e.2.2)from h2) (qaq h3);rw[h1]at this;have e1:yx (w e.2.2) (wtL w l,(l.length:Int))=(wtL w (e::l),((e::l).length:Int)):=by
   rw[rm];unfold yx;simp only[List.length_cons,Int.natCast_add,Prod.mk.injEq];exact⟨by omega,by omega⟩
  rwa[e1]at this
theorem qim(l l' :List Eg):wtL w (l++l')=wtL w l+wtL w l' :=qpw _ _ _
theorem qn0:∀(l m:List Nat),l.Nodup→(∀x∈l,x∈m)→l.length≤m.length
 |[],_,_,_=>by simp
 |a::l,m,hn,hs=>by
  obtain⟨h1,h2⟩:=List.nodup_cons.1 hn;have ha:a∈m:=hs a List.mem_cons_self;have ih:=qn0 l (m.erase a) h2 (fun x hx=>(List.mem_erase_of_ne (fun e=>h1 (by rw[←e];exact hx))).2 (hs x (List.mem_cons_of_mem _ hx)));rw[List.length_erase_of_mem ha]at ih;have:0<m.length:=List.length_pos_of_mem ha;simp only[List.length_cons];omega
theorem jhv{f:Eg→Nat}{N:Nat}:∀{l:List Eg},(∀e∈l,f e<N)→N<l.length→∃l1 e l2 e' l3,l=l1++e::(l2++e' ::l3)∧f e=f e' :=by
 intro l hl hN;have h1:¬(l.map f).Nodup:=fun hn=>by
  have h2:(l.map f).length≤(List.range N).length:=by
   refine qn0 _ _ hn fun x hx=> ?_
   obtain⟨e,he,rfl⟩:=List.mem_map.1 hx;exact List.mem_range.2 (hl e he)
  rw[List.length_map,List.length_range]at h2;omega
 clear hl hN
 induction l with
 |nil=>exact absurd List.nodup_nil h1
 |cons e l ih=>
  rw[List.map_cons,List.nodup_cons]at h1;by_cases hm:f e∈l.map f
  ·obtain⟨e',he',hf⟩:=List.mem_map.1 hm;obtain⟨l2,l3,rfl⟩:=List.append_of_mem he';exact⟨[],e,l2,e',l3,rfl,hf.symm⟩
  ·obtain⟨l1,a,l2,a',l3,rfl,hf⟩:=ih fun hn=>h1 ⟨hm,hn⟩
   exact⟨e::l1,a,l2,a',l3,rfl,hf⟩
def qgm(E:Eg→Prop)(w:Nat→Int)(sl:Bool)(g:Nat):Prop:=∀i l,tj E i l i→(∃l',tj E i l' g)→0≤sg sl (wtL w l)
theorem qe2{N:Nat}(hE:∀e,E e→e.1<N)(hc:qgm E w sl g):∀(n:Nat) (l:List Eg) (i:Nat),l.length≤n→tj E i l g→∃l',tj E i l' g∧l'.length≤N∧leV sl (wtL w l',(l'.length:Int)) (wtL w l,(l.length:Int))
 |n,l,i,hn,hl=>by
  by_cases hN:l.length≤N
  ·exact⟨l,hl,hN,qg1 _⟩
  ·have hmem:∀{l:List Eg} {i:Nat},tj E i l g→∀e∈l,e.1<N:=fun{l}=>by
    induction l with
    |nil=>intro i _ e he;cases he
    |cons a l ih=>
     rintro i ⟨_,h2,h3⟩ e he;rcases List.mem_cons.1 he with rfl|he
     ·exact hE _ h2
     ·exact ih h3 e he
   obtain⟨l1,e,l2,e',l3,rfl,hf⟩:=jhv (f:=fun e:Eg=>e.1) (hmem hl) (by omega);obtain⟨k,h1,h2⟩:=tj.app.1 hl;have h2' :tj E k ((e::l2)++e' ::l3) g:=h2;obtain⟨k',h3,h4⟩:=tj.app.1 h2';have hk:k' =k:=by
    have a1:=h3.1;have a2:=h4.1;omega
   subst hk;have hcy:=hc k' (e::l2) h3 ⟨_,h4⟩;cases n with
   |zero=>simp at hn
   |succ n=>
    obtain⟨l',g1,g2,g3⟩:=qe2 hE hc n (l1++e' ::l3) i (by simp only[List.length_append,List.length_cons]at hn⊢;omega) (tj.app.2 ⟨k',h1,h4⟩);refine⟨l',g1,g2,ss g3 ?_⟩;have e1:wtL w (l1++e::(l2++e' ::l3))=wtL w (l1++e' ::l3)+wtL w (e::l2):=by
     have:l1++e::(l2++e' ::l3)=l1++((e::l2)++e' ::l3):=rfl;rw[this,qim,qim,qim];omega
    rw[e1];have e2:(l1++e::(l2++e' ::l3)).length=(l1++e' ::l3).length+(l2.length+1):=by
     simp only[List.length_append,List.length_cons];omega
    rw[e2];unfold leV sg at*;cases sl<;>simp at* <;>omega
theorem qw5{N k:Nat}{d:p0}(hE:∀e,E e→e.1<N)(hc:qgm E w sl g)(hk:N≤k)(h:Atl E w g sl k d):Opt E w g sl d:=by
 intro i v hw;obtain⟨l,h1,rfl⟩:=qfb hw;obtain⟨l',g1,g2,g3⟩:=qe2 hE hc l.length l i (Nat.le_refl _) h1;obtain⟨v',e1,l1⟩:=h i _ (qaq g1) (by show(l'.length:Int)≤_;omega);exact⟨v',e1,ss l1 g3⟩
end
end Go.Proofs.Ytokeielgplbdeaa
