/-
  Predict: the graph and what is best (picked out of Predict's texts).
-/
import Derived.Test.YtocndcbobdnagaaGreatDoorZ3A1
set_option linter.all false
namespace Go.Proofs.YtocndcbobdnagaaGreatDoor
open Go.K Go.M
abbrev Eg:Type:=Nat×Nat×Nat
abbrev Val:Type:=Int×Int
abbrev Dst:Type:=Nat->Option Val
def sg(sl:Bool)(T:Int):Int:=if sl then-T else T
def leV(sl:Bool)(a b:Val):Prop:=sg sl a.1<sg sl b.1\/(a.1=b.1/\a.2<=b.2)
def ltB(sl:Bool)(a b:Val):Bool:=if a.1=b.1 then decide (a.2<b.2)else(decide (a.1<b.1) !=sl)
theorem jk0{sl:Bool}{a b:Val}:ltB sl a b=true↔¬leV sl b a:=by
 unfold ltB leV sg;cases sl<;>by_cases h:a.1=b.1<;>simp[h]<;>omega
theorem js2{sl:Bool}{a b:Val}:ltB sl a b=false↔leV sl b a:=by
 cases h:ltB sl a b with
 |true=>
  have:=jk0.1 h;exact⟨(fun e=>by cases e),fun e=>absurd e this⟩
 |false=>exact⟨fun _=>KZ fun hn=>(by rw[jk0.2 hn]at h;cases h),fun _=>rfl⟩
theorem qv0{sl:Bool}(a:Val):leV sl a a:= .inr ⟨rfl,Kc _⟩
theorem qce{sl:Bool}{a b c:Val}(h:leV sl a b)(h' :leV sl b c):leV sl a c:=by
 unfold leV sg at*;cases sl<;>simp at* <;>omega
theorem q4e{sl:Bool}{a b:Val}(h:leV sl a b)(h' :leV sl b a):a=b:=by
 obtain⟨a1,a2⟩:=a;obtain⟨b1,b2⟩:=b;unfold leV sg at*;cases sl<;>simp at* <;>omega
theorem jvk{sl:Bool}(a b:Val):leV sl a b\/leV sl b a:=by
 unfold leV sg;cases sl<;>simp<;>omega
theorem zcy{sl:Bool}{a b:Val}(h:ltB sl a b=true):leV sl a b:=(jvk a b).resolve_right (jk0.1 h)
def qlr(w:Int)(a:Val):Val:=(a.1+w,a.2+1)
theorem q4d{sl:Bool}{a b:Val}(w:Int)(h:leV sl a b):leV sl (qlr w a) (qlr w b):=by
 unfold leV sg qlr at*;cases sl<;>simp at* <;>omega
section
variable (E : Eg -> Prop) (w : Nat -> Int) (g : Nat)
inductive Wk : Nat -> Val -> Prop
 | nil : Wk g (0, 0)
 | cons {a b t : Nat} {v : Val} : E (a, b, t) -> Wk b v -> Wk a (qlr (w t) v)
variable (sl : Bool)
def Snd(d:Dst):Prop:=∀i v,d i=some v->Wk E w g i v
def Atl(k:Nat)(d:Dst):Prop:=∀i v,Wk E w g i v->v.2<=(k:Int)->∃v',d i=some v' /\leV sl v' v
def Opt(d:Dst):Prop:=∀i v,Wk E w g i v->∃v',d i=some v' /\leV sl v' v
end
section
variable {E : Eg -> Prop} {w : Nat -> Int} {g : Nat} {sl : Bool}
theorem Wk.pos{i:Nat}{v:Val}(h:Wk E w g i v):0<=v.2:=by
 induction h with
 |nil=>exact Kc _
 |cons _ _ ih=>simp only[qlr];omega
theorem Wk.sub{E' :Eg->Prop}(hE:∀e,E e->E' e){i:Nat}{v:Val}(h:Wk E w g i v):Wk E' w g i v:=by
 induction h with
 |nil=>exact .nil
 |cons he _ ih=>exact .cons (hE _ he) ih
theorem qkm{d d' :Dst}(h1:Snd E w g d)(h2:Opt E w g sl d)(h1' :Snd E w g d')(h2' :Opt E w g sl d'):d=d' :=by
 funext i;cases hd:d i with
 |some v=>
  obtain⟨v',e1,l1⟩:=h2' i v (h1 i v hd);obtain⟨v'',e2,l2⟩:=h2 i v' (h1' i v' e1);rw[hd]at e2;cases e2;rw[e1,q4e l2 l1]
 |none=>
  cases hd' :d' i with
  |none=>rfl
  |some v' =>
   obtain⟨v,e,_⟩:=h2 i v' (h1' i v' hd');rw[hd]at e;cases e
def j3e(d:Dst)(i:Nat)(v:Val):Dst:=fun j=>if j=i then some v else d j
def qt9(w:Nat->Int)(sl:Bool)(d:Dst)(e:Eg):Bool:=
 match d e.2.1 with
 |some v=>(match d e.1 with|some u=>ltB sl (qlr (w e.2.2) v) u|none=>true)
 |none=>false
def rlx(w:Nat->Int)(sl:Bool)(d:Dst)(e:Eg):Dst:=
 match d e.2.1 with
 |some v=>bif qt9 w sl d e then j3e d e.1 (qlr (w e.2.2) v)else d
 |none=>d
def q2e(w:Nat->Int)(sl:Bool)(s:Bool×Dst)(e:Eg):Bool×Dst:=(s.1||qt9 w sl s.2 e,rlx w sl s.2 e)
abbrev pass(w:Nat->Int)(sl:Bool)(L:List Eg)(s:Bool×Dst):Bool×Dst:=L.foldl (q2e w sl) s
def Imp(sl:Bool)(d d' :Dst):Prop:=∀i v,d i=some v->∃v',d' i=some v' /\leV sl v' v
theorem Imp.refl(d:Dst):Imp sl d d:=fun _ v h=>⟨v,h,qv0 v⟩
theorem Imp.trans{a b c:Dst}(h:Imp sl a b)(h' :Imp sl b c):Imp sl a c:=fun i v hv=>by
 obtain⟨v',e1,l1⟩:=h i v hv;obtain⟨v'',e2,l2⟩:=h' i v' e1;exact⟨v'',e2,qce l2 l1⟩
theorem joy{d:Dst}{e:Eg}(h:d e.2.1=none):rlx w sl d e=d/\qt9 w sl d e=false:=by
 unfold rlx qt9;rw[h];exact⟨rfl,rfl⟩
theorem qyp{d:Dst}{e:Eg}(h:qt9 w sl d e=false):rlx w sl d e=d:=by
 unfold rlx;rw[h];cases d e.2.1<;>rfl
theorem jtn(d:Dst)(e:Eg):Imp sl d (rlx w sl d e):=by
 cases hi:qt9 w sl d e with
 |false=>rw[qyp hi];exact Imp.refl d
 |true=>
  unfold rlx;rw[hi];cases hv:d e.2.1 with
  |none=>exact Imp.refl d
  |some v=>
   intro i u hu;show∃v',(if i=e.1 then some (qlr (w e.2.2) v)else d i)=some v' /\_;by_cases h:i=e.1
   ·rw[if_pos h];refine⟨_,rfl,?_⟩;unfold qt9 at hi;rw[hv,<-h,hu]at hi;exact zcy hi
   ·rw[if_neg h];exact⟨u,hu,qv0 u⟩
theorem j3l{d:Dst}{e:Eg}(hd:Snd E w g d)(he:E e):Snd E w g (rlx w sl d e):=by
 cases hi:qt9 w sl d e with
 |false=>rw[qyp hi];exact hd
 |true=>
  unfold rlx;rw[hi];cases hv:d e.2.1 with
  |none=>exact hd
  |some v=>
   intro i u hu;have hu:(if i=e.1 then some (qlr (w e.2.2) v)else d i)=some u:=hu;by_cases h:i=e.1
   ·rw[if_pos h]at hu;cases hu;rw[h];exact Wk.cons (show E (e.1,e.2.1,e.2.2)from he) (hd _ _ hv)
   ·rw[if_neg h]at hu;exact hd i u hu
theorem zak{d:Dst}{e:Eg}{v:Val}(hv:d e.2.1=some v):∃v',rlx w sl d e e.1=some v' /\leV sl v' (qlr (w e.2.2) v):=by
 cases hi:qt9 w sl d e with
 |true=>
  unfold rlx;rw[hi,hv];exact⟨_,if_pos rfl,qv0 _⟩
 |false=>
  rw[qyp hi];unfold qt9 at hi;rw[hv]at hi;cases hu:d e.1 with
  |none=>rw[hu]at hi;cases hi
  |some u=>rw[hu]at hi;exact⟨u,rfl,js2.1 hi⟩
theorem jef:∀(L:List Eg) (s:Bool×Dst),Imp sl s.2 (pass w sl L s).2
 |[],s=>Imp.refl _
 |e::L,s=>(jtn s.2 e).trans (jef L (q2e w sl s e))
theorem jeg:∀(L:List Eg) (s:Bool×Dst),(∀e∈L,E e\/(∀v,¬Wk E w g e.2.1 v))->Snd E w g s.2->Snd E w g (pass w sl L s).2
 |[],s,_,h=>h
 |e::L,s,hL,h=>by
  refine jeg L (q2e w sl s e) (fun e' he' =>hL e' (We _ he')) ?_;rcases hL e Wf with he|hn
  ·exact j3l h he
  ·have:s.2 e.2.1=none:=by
    cases hv:s.2 e.2.1 with
    |none=>rfl
    |some v=>exact absurd (h _ _ hv) (hn v)
   show Snd E w g (rlx w sl s.2 e);rw[(joy this).1];exact h
theorem jtf:∀(L:List Eg) (s:Bool×Dst) (e:Eg),e∈L->∀v,s.2 e.2.1=some v->∃v',(pass w sl L s).2 e.1=some v' /\leV sl v' (qlr (w e.2.2) v)
 |[],s,e,he,_,_=>by cases he
 |e' ::L,s,e,he,v,hv=>by
  rcases Wr.1 he with rfl|he
  ·obtain⟨v1,e1,l1⟩:=zak (w:=w) (sl:=sl) hv;obtain⟨v2,e2,l2⟩:=jef (w:=w) (sl:=sl) L (q2e w sl s e) e.1 v1 e1;exact⟨v2,e2,qce l2 l1⟩
  ·obtain⟨v1,e1,l1⟩:=jtn (w:=w) (sl:=sl) s.2 e' e.2.1 v hv;obtain⟨v2,e2,l2⟩:=jtf L (q2e w sl s e') e he v1 e1;exact⟨v2,e2,qce l2 (q4d _ l1)⟩
theorem joi{L:List Eg}{s:Bool×Dst}{k:Nat}(hL:∀e,E e->e∈L)(h:Atl E w g sl k s.2):Atl E w g sl (k+1) (pass w sl L s).2:=by
 intro i v hw hk;cases hw with
 |nil=>
  obtain⟨v1,e1,l1⟩:=h g (0,0) .nil (Int.natCast_nonneg k);obtain⟨v2,e2,l2⟩:=jef (w:=w) (sl:=sl) L s _ _ e1;exact⟨v2,e2,qce l2 l1⟩
 | @cons _ b t u he hw' =>
  obtain⟨v1,e1,l1⟩:=h b u hw' (by simp only[qlr]at hk;omega);obtain⟨v2,e2,l2⟩:=jtf (w:=w) (sl:=sl) L s (i,b,t) (hL _ he) v1 e1;exact⟨v2,e2,qce l2 (q4d _ l1)⟩
theorem jiv:∀(L:List Eg) (s:Bool×Dst),(pass w sl L s).1=false->s.1=false/\(pass w sl L s).2=s.2/\∀e∈L,qt9 w sl s.2 e=false
 |[],s,h=>⟨h,rfl,fun e he=>by cases he⟩
 |e::L,s,h=>by
  obtain⟨h1,h2,h3⟩:=jiv L (q2e w sl s e) h;have h1:(s.1||qt9 w sl s.2 e)=false:=h1;rw[KS]at h1;have h4:(q2e w sl s e).2=s.2:=qyp h1.2;refine⟨h1.1,h2.trans h4,fun e' he' => ?_⟩;rcases Wr.1 he' with rfl|he'
  ·exact h1.2
  ·rw[<-h4];exact h3 e' he'
theorem jz3{L:List Eg}{d:Dst}(hL:∀e,E e->e∈L)(h0:Atl E w g sl 0 d)(h:∀e∈L,qt9 w sl d e=false):Opt E w g sl d:=by
 intro i v hw
 induction hw with
 |nil=>exact h0 g (0,0) .nil (Kc _)
 | @cons a b t u he hw' ih=>
  obtain⟨v1,e1,l1⟩:=ih;have h2:=h _ (hL _ he);unfold qt9 at h2;simp only[]at h2;rw[e1]at h2;cases hu:d a with
  |none=>rw[hu]at h2;cases h2
  |some u' =>
   rw[hu]at h2;exact⟨u',rfl,qce (js2.1 h2) (q4d _ l1)⟩
def IsW(E:Eg->Prop):Nat->List Eg->Nat->Prop
 |i,[],j=>i=j
 |i,e::l,j=>e.1=i/\E e/\IsW E e.2.1 l j
def wtL(w:Nat->Int)(l:List Eg):Int:=jrs (fun e:Eg=>w e.2.2) l
theorem qhz(w:Nat->Int)(e:Eg)(l:List Eg):wtL w (e::l)=w e.2.2+wtL w l:=rfl
theorem IsW.app{E:Eg->Prop}{j:Nat}:∀{l l' :List Eg} {i:Nat},IsW E i (l++l') j↔∃k,IsW E i l k/\IsW E k l' j
 |[],l',i=>⟨fun h=>⟨i,rfl,h⟩,fun⟨k,h1,h2⟩=>by rw[show i=k from h1];exact h2⟩
 |e::l,l',i=>by
  constructor
  ·rintro⟨h1,h2,h3⟩;obtain⟨k,h4,h5⟩:=IsW.app.1 h3;exact⟨k,⟨h1,h2,h4⟩,h5⟩
  ·rintro⟨k,⟨h1,h2,h4⟩,h5⟩;exact⟨h1,h2,IsW.app.2 ⟨k,h4,h5⟩⟩
theorem q6p{i:Nat}{v:Val}(h:Wk E w g i v):∃l,IsW E i l g/\v=(wtL w l,(l.length:Int)):=by
 induction h with
 |nil=>exact⟨[],rfl,rfl⟩
 | @cons a b t u he _ ih=>
  obtain⟨l,h1,rfl⟩:=ih;refine⟨(a,b,t)::l,⟨rfl,he,h1⟩,?_⟩;rw[qhz];unfold qlr;simp only[WA,Int.natCast_add,Wj];exact⟨by omega,by omega⟩
theorem qyi:∀{l:List Eg} {i:Nat},IsW E i l g->Wk E w g i (wtL w l,(l.length:Int))
 |[],i,h=>by rw[show i=g from h];exact .nil
 |e::l,i,⟨h1,h2,h3⟩=>by
  have:=Wk.cons (w:=w) (show E (e.1,e.2.1,e.2.2)from h2) (qyi h3);rw[h1]at this;have e1:qlr (w e.2.2) (wtL w l,(l.length:Int))=(wtL w (e::l),((e::l).length:Int)):=by
   rw[qhz];unfold qlr;simp only[WA,Int.natCast_add,Wj];exact⟨by omega,by omega⟩
  rwa[e1]at this
theorem jmb(l l' :List Eg):wtL w (l++l')=wtL w l+wtL w l' :=jaj _ _ _
theorem qym:∀(l m:List Nat),l.Nodup->(∀x∈l,x∈m)->l.length<=m.length
 |[],_,_,_=>by simp
 |a::l,m,hn,hs=>by
  obtain⟨h1,h2⟩:=HM.1 hn;have ha:a∈m:=hs a Wf;have ih:=qym l (m.erase a) h2 (fun x hx=>(List.mem_erase_of_ne (fun e=>h1 (by rw[<-e];exact hx))).2 (hs x (We _ hx)));rw[List.length_erase_of_mem ha]at ih;have:0<m.length:=List.length_pos_of_mem ha;simp only[WA];omega
theorem j7n{f:Eg->Nat}{N:Nat}:∀{l:List Eg},(∀e∈l,f e<N)->N<l.length->∃l1 e l2 e' l3,l=l1++e::(l2++e' ::l3)/\f e=f e' :=by
 intro l hl hN;have h1:¬(l.map f).Nodup:=fun hn=>by
  have h2:(l.map f).length<=(List.range N).length:=by
   refine qym _ _ hn fun x hx=> ?_
   obtain⟨e,he,rfl⟩:=WG.1 hx;exact Kk.2 (hl e he)
  rw[Ww,Hi]at h2;omega
 clear hl hN
 induction l with
 |nil=>exact absurd List.nodup_nil h1
 |cons e l ih=>
  rw[Kd,HM]at h1;by_cases hm:f e∈l.map f
  ·obtain⟨e',he',hf⟩:=WG.1 hm;obtain⟨l2,l3,rfl⟩:=List.append_of_mem he';exact⟨[],e,l2,e',l3,rfl,hf.symm⟩
  ·obtain⟨l1,a,l2,a',l3,rfl,hf⟩:=ih fun hn=>h1 ⟨hm,hn⟩
   exact⟨e::l1,a,l2,a',l3,rfl,hf⟩
def qzo(E:Eg->Prop)(w:Nat->Int)(sl:Bool)(g:Nat):Prop:=∀i l,IsW E i l i->(∃l',IsW E i l' g)->0<=sg sl (wtL w l)
theorem qr8{N:Nat}(hE:∀e,E e->e.1<N)(hc:qzo E w sl g):∀(n:Nat) (l:List Eg) (i:Nat),l.length<=n->IsW E i l g->∃l',IsW E i l' g/\l'.length<=N/\leV sl (wtL w l',(l'.length:Int)) (wtL w l,(l.length:Int))
 |n,l,i,hn,hl=>by
  by_cases hN:l.length<=N
  ·exact⟨l,hl,hN,qv0 _⟩
  ·have hmem:∀{l:List Eg} {i:Nat},IsW E i l g->∀e∈l,e.1<N:=fun{l}=>by
    induction l with
    |nil=>intro i _ e he;cases he
    |cons a l ih=>
     rintro i ⟨_,h2,h3⟩ e he;rcases Wr.1 he with rfl|he
     ·exact hE _ h2
     ·exact ih h3 e he
   obtain⟨l1,e,l2,e',l3,rfl,hf⟩:=j7n (f:=fun e:Eg=>e.1) (hmem hl) (by omega);obtain⟨k,h1,h2⟩:=IsW.app.1 hl;have h2' :IsW E k ((e::l2)++e' ::l3) g:=h2;obtain⟨k',h3,h4⟩:=IsW.app.1 h2';have hk:k' =k:=by
    have a1:=h3.1;have a2:=h4.1;omega
   subst hk;have hcy:=hc k' (e::l2) h3 ⟨_,h4⟩;cases n with
   |zero=>simp at hn
   |succ n=>
    obtain⟨l',g1,g2,g3⟩:=qr8 hE hc n (l1++e' ::l3) i (by simp only[Wx,WA]at hn⊢;omega) (IsW.app.2 ⟨k',h1,h4⟩);refine⟨l',g1,g2,qce g3 ?_⟩;have e1:wtL w (l1++e::(l2++e' ::l3))=wtL w (l1++e' ::l3)+wtL w (e::l2):=by
     have:l1++e::(l2++e' ::l3)=l1++((e::l2)++e' ::l3):=rfl;rw[this,jmb,jmb,jmb];omega
    rw[e1];have e2:(l1++e::(l2++e' ::l3)).length=(l1++e' ::l3).length+(l2.length+1):=by
     simp only[Wx,WA];omega
    rw[e2];unfold leV sg at*;cases sl<;>simp at* <;>omega
theorem jsa{N k:Nat}{d:Dst}(hE:∀e,E e->e.1<N)(hc:qzo E w sl g)(hk:N<=k)(h:Atl E w g sl k d):Opt E w g sl d:=by
 intro i v hw;obtain⟨l,h1,rfl⟩:=q6p hw;obtain⟨l',g1,g2,g3⟩:=qr8 hE hc l.length l i (Wg _) h1;obtain⟨v',e1,l1⟩:=h i _ (qyi g1) (by show(l'.length:Int)<=_;omega);exact⟨v',e1,qce l1 g3⟩
end
noncomputable section
def q3e{R:Type}(W:Int->Option Int)(slow_2:Bool)(i_9:Int)(v_24:Int)(v_25:Int)(v_28:(List (Int×(List ab))))(v_35:(List ab))(v_36:Int)(g_30:(List (Int×(List ab))))(g_31:Int)(g_32:Int)(changed_8:Bool)(v_37:Int)(out_7:(List ae))(nx:(Bool×Int×(List ae))->Option R)(dn:(Bool×(List ae))->Option R)(rt:(List ae)->Option R):Option R:=
 bif decide (v_37<v_36)then
  al (ix v_37 v_35.length)<|
  al (ix v_37 v_35.length)<|
  al (ix (v_35.getD (Int.toNat v_37) ab.z).1 out_7.length)<|
  al (ix (v_35.getD (Int.toNat v_37) ab.z).1 out_7.length)<|
  bif (!(out_7.getD (Int.toNat (v_35.getD (Int.toNat v_37) ab.z).1) ae.z).1)then
   al (dg .i64 (v_37+1))<|
   nx (changed_8,(v_37+1),out_7)
  else
   bnd (W (v_35.getD (Int.toNat v_37) ab.z).2.1) fun r1=>
   al (dg .i64 ((out_7.getD (Int.toNat (v_35.getD (Int.toNat v_37) ab.z).1) ae.z).2.1+r1))<|
   al (dg .i64 ((out_7.getD (Int.toNat (v_35.getD (Int.toNat v_37) ab.z).1) ae.z).2.2.1+1))<|
   al (ix i_9 out_7.length)<|
   al (ix i_9 out_7.length)<|
   bnd (lm ((out_7.getD (Int.toNat (v_35.getD (Int.toNat v_37) ab.z).1) ae.z).1,((out_7.getD (Int.toNat (v_35.getD (Int.toNat v_37) ab.z).1) ae.z).2.1+r1),((out_7.getD (Int.toNat (v_35.getD (Int.toNat v_37) ab.z).1) ae.z).2.2.1+1),()) (out_7.getD (Int.toNat i_9) ae.z) slow_2) fun r2=>
   bif r2 then
    al (ix i_9 out_7.length)<|
    al (ix i_9 out_7.length)<|
    al (dg .i64 (v_37+1))<|
    nx (true,(v_37+1),(out_7.set (Int.toNat i_9) ((out_7.getD (Int.toNat (v_35.getD (Int.toNat v_37) ab.z).1) ae.z).1,((out_7.getD (Int.toNat (v_35.getD (Int.toNat v_37) ab.z).1) ae.z).2.1+r1),((out_7.getD (Int.toNat (v_35.getD (Int.toNat v_37) ab.z).1) ae.z).2.2.1+1),())))
   else
    al (dg .i64 (v_37+1))<|
    nx (changed_8,(v_37+1),out_7)
 else
  dn (changed_8,out_7)
def jxb(W:Int->Option Int)(slow_2:Bool)(i_9:Int)(v_24:Int)(v_25:Int)(v_28:(List (Int×(List ab))))(v_35:(List ab))(v_36:Int)(g_30:(List (Int×(List ab))))(g_31:Int)(g_32:Int)(s0:(Bool×Int×(List ae))):Option ((Bool×(List ae))⊕(List ae)):=
 b9 (fun a=>q3e W slow_2 i_9 v_24 v_25 v_28 v_35 v_36 g_30 g_31 g_32 a.1 a.2.1 a.2.2 (fun a' =>some (.next a')) (fun e=>some (.done e)) (fun r=>some (.ret r))) s0
def jj2{R:Type}(W:Int->Option Int)(slow_2:Bool)(v_24:Int)(v_25:Int)(v_28:(List (Int×(List ab))))(g_30:(List (Int×(List ab))))(g_31:Int)(g_32:Int)(changed_8:Bool)(out_7:(List ae))(en:(Int×(List ab)))(nx:(Bool×(List ae))->Option R)(rt:(List ae)->Option R):Option R:=
 bnd (jxb W slow_2 en.1 v_24 v_25 v_28 en.2 (en.2.length:Int) g_30 g_31 g_32 (changed_8,0,out_7)) fun oe3=>
 lk oe3 (fun e3=>
  nx (e3.1,e3.2)) (fun r=>rt r)
def jj1(W:Int->Option Int)(slow_2:Bool)(v_24:Int)(v_25:Int)(v_28:(List (Int×(List ab))))(g_30:(List (Int×(List ab))))(g_31:Int)(g_32:Int)(l:List (Int×(List ab)))(s0:(Bool×(List ae))):Option ((Bool×(List ae))⊕(List ae)):=
 qim (fun a en=>jj2 W slow_2 v_24 v_25 v_28 g_30 g_31 g_32 a.1 a.2 en (fun a' =>some (.inl a')) (fun r=>some (.inr r))) l s0
def q3f{R:Type}(W:Int->Option Int)(slow_2:Bool)(v_24:Int)(g_30:(List (Int×(List ab))))(g_31:Int)(g_32:Int)(v_25:Int)(out_7:(List ae))(nx:(Int×(List ae))->Option R)(dn:(List ae)->Option R)(rt:(List ae)->Option R):Option R:=
 bif decide (v_25<v_24)then
  q5w (fun l=>jj1 W slow_2 v_24 v_25 g_30 g_30 g_31 g_32 l (false,out_7)) g_30 (fun e4=>
   bif (!e4.1)then
    dn e4.2
   else
    al (dg .i64 (v_25+1))<|
    nx ((v_25+1),e4.2)) (fun r=>rt r)
 else
  dn out_7
def jp1(g_00:(List (Int×(List ab))))(g_01:Int)(g_02:Int)(W:Int->Option Int)(slow_2:Bool):Option (List ae):=
 al (qub g_02 g_02 24)<|
 al (ix g_01 (List.replicate (Int.toNat g_02) (ae.z:ae)).length)<|
 al (ix g_01 (List.replicate (Int.toNat g_02) (ae.z:ae)).length)<|
 al (dg .i64 (g_02+1))<|
 ndK (fun{Q} a nx dn rt=>q3f (R:=Q) W slow_2 (g_02+1) g_00 g_01 g_02 a.1 a.2 nx dn rt) (0,((List.replicate (Int.toNat g_02) (ae.z:ae)).set (Int.toNat g_01) (true,((List.replicate (Int.toNat g_02) (ae.z:ae)).getD (Int.toNat g_01) ae.z).2.1,((List.replicate (Int.toNat g_02) (ae.z:ae)).getD (Int.toNat g_01) ae.z).2.2.1,()))) (fun e5=>
  some e5) (fun r=>some r)
def qq0{R:Type}(W:Int->Option Int)(b_7:(List ae))(i_9:Int)(v_29:(List ab))(v_30:Int)(g_30:(List (Int×(List ab))))(g_31:Int)(g_32:Int)(out_8:(List Int))(v_31:Int)(next_100:Int)(next_101:Int)(nx:(Int×Int×Int)->Option R)(dn:(Int×Int)->Option R)(rt:(List Int)->Option R):Option R:=
 bif decide (v_31<v_30)then
  al (ix v_31 v_29.length)<|
  al (ix v_31 v_29.length)<|
  al (ix (v_29.getD (Int.toNat v_31) ab.z).1 b_7.length)<|
  al (ix (v_29.getD (Int.toNat v_31) ab.z).1 b_7.length)<|
  bif (b_7.getD (Int.toNat (v_29.getD (Int.toNat v_31) ab.z).1) ae.z).1 then
   bnd (W (v_29.getD (Int.toNat v_31) ab.z).2.1) fun r2=>
   al (dg .i64 ((b_7.getD (Int.toNat (v_29.getD (Int.toNat v_31) ab.z).1) ae.z).2.1+r2))<|
   al (ix i_9 b_7.length)<|
   al (ix i_9 b_7.length)<|
   bif decide (((b_7.getD (Int.toNat (v_29.getD (Int.toNat v_31) ab.z).1) ae.z).2.1+r2)=(b_7.getD (Int.toNat i_9) ae.z).2.1)then
    al (dg .i64 ((b_7.getD (Int.toNat (v_29.getD (Int.toNat v_31) ab.z).1) ae.z).2.2.1+1))<|
    al (ix i_9 b_7.length)<|
    al (ix i_9 b_7.length)<|
    bif decide (((b_7.getD (Int.toNat (v_29.getD (Int.toNat v_31) ab.z).1) ae.z).2.2.1+1)=(b_7.getD (Int.toNat i_9) ae.z).2.2.1)then
     bif decide (next_100<0)then
      al (dg .i64 (v_31+1))<|
      nx ((v_31+1),(v_29.getD (Int.toNat v_31) ab.z).1,(v_29.getD (Int.toNat v_31) ab.z).2.1)
     else
      bif decide ((v_29.getD (Int.toNat v_31) ab.z).2.1<next_101)then
       al (dg .i64 (v_31+1))<|
       nx ((v_31+1),(v_29.getD (Int.toNat v_31) ab.z).1,(v_29.getD (Int.toNat v_31) ab.z).2.1)
      else
       al (dg .i64 (v_31+1))<|
       nx ((v_31+1),next_100,next_101)
    else
     al (dg .i64 (v_31+1))<|
     nx ((v_31+1),next_100,next_101)
   else
    al (dg .i64 (v_31+1))<|
    nx ((v_31+1),next_100,next_101)
  else
   al (dg .i64 (v_31+1))<|
   nx ((v_31+1),next_100,next_101)
 else
  dn (next_100,next_101)
def jka(W:Int->Option Int)(b_7:(List ae))(i_9:Int)(v_29:(List ab))(v_30:Int)(g_30:(List (Int×(List ab))))(g_31:Int)(g_32:Int)(out_8:(List Int))(s0:(Int×Int×Int)):Option ((Int×Int)⊕(List Int)):=
 b9 (fun a=>qq0 W b_7 i_9 v_29 v_30 g_30 g_31 g_32 out_8 a.1 a.2.1 a.2.2 (fun a' =>some (.next a')) (fun e=>some (.done e)) (fun r=>some (.ret r))) s0
def jb4{R:Type}(W:Int->Option Int)(b_7:(List ae))(g_30:(List (Int×(List ab))))(g_31:Int)(g_32:Int)(i_9:Int)(out_8:(List Int))(nx:(Int×(List Int))->Option R)(dn:(List Int)->Option R)(rt:(List Int)->Option R):Option R:=
 al (ix i_9 b_7.length)<|
 al (ix i_9 b_7.length)<|
 bif decide ((0:Int)<(b_7.getD (Int.toNat i_9) ae.z).2.2.1)then
  bnd (jka W b_7 i_9 (oj ab.ty (bz (.int .i64) i_9 g_30)) ((oj ab.ty (bz (.int .i64) i_9 g_30)).length:Int) g_30 g_31 g_32 out_8 (0,(-1),0)) fun oe3=>
  lk oe3 (fun e3=>
   bif decide (e3.1<0)then
    dn out_8
   else
    al (room (out_8.length+1) 8)<|
    nx (e3.1,(out_8++[e3.2]))) (fun r=>rt r)
 else
  dn out_8
def jxi(W:Int->Option Int)(b_7:(List ae))(g_30:(List (Int×(List ab))))(g_31:Int)(g_32:Int)(s0:(Int×(List Int))):Option ((List Int)⊕(List Int)):=
 b9 (fun a=>jb4 W b_7 g_30 g_31 g_32 a.1 a.2 (fun a' =>some (.next a')) (fun e=>some (.done e)) (fun r=>some (.ret r))) s0
def j7b(g_00:(List (Int×(List ab))))(g_01:Int)(g_02:Int)(W:Int->Option Int)(slow_2:Bool):Option (List Int):=
 bnd (jp1 g_00 g_01 g_02 W slow_2) fun r1=>
 bnd (jxi W r1 g_00 g_01 g_02 (0,[])) fun oe4=>
 lk oe4 (fun e4=>
  some e4) (fun r=>some r)
theorem jsb(a:List (Int×List ab))(b c:Int)(ts:List ag)(s:Bool):fk a b c ts s=jp1 a b c (fun t=>fo t ts) s:=rfl
theorem j1i(a:List (Int×List ab))(b c:Int)(ts:List ag)(s:Bool):fl a b c ts s=jp1 a b c (fun t=>fp t ts) s:=rfl
theorem zaz(a:List (Int×List ab))(b c:Int)(ts:List ag)(s:Bool):xu a b c ts s=j7b a b c (fun t=>lb t ts) s:=rfl
end
def wb(o:Option Val):ae:=match o with|some v=>(true,v.1,v.2,())|none=>(false,0,0,())
def uu(N:Nat)(d:Dst):List ae:=bv N fun i=>wb (d i)
theorem qpb(N:Nat)(d:Dst):(uu N d).length=N:=qyv _ _
theorem qjf{N:Nat}{d:Dst}{i:Nat}(h:i<N)(z:ae):(uu N d).getD i z=wb (d i):=qx2 h
theorem joh(N:Nat)(d:Dst)(i:Nat)(v:Val):(uu N d).set i (true,v.1,v.2,())=uu N (j3e d i v):=by
 unfold uu;rw[qyw];refine qcu fun j _=> ?_
 unfold j3e;by_cases h:j=i
 ·rw[if_pos h,if_pos h];rfl
 ·rw[if_neg h,if_neg h]
def Bd(B:Nat)(d:Dst):Prop:=∀i v,d i=some v->0<=v.1/\v.1<=1048576*v.2/\0<=v.2/\v.2<=(B:Int)
theorem Bd.mono{B B' :Nat}{d:Dst}(h:Bd B d)(hB:B<=B'):Bd B' d:=fun i v hv=>by have:=h i v hv;omega
theorem Bd.rlx{B:Nat}{d:Dst}(h:Bd B d){w:Nat->Int}{sl:Bool}{e:Eg}(hw:0<=w e.2.2/\w e.2.2<=1048576):Bd (B+1) (rlx w sl d e):=by
 cases hi:qt9 w sl d e with
 |false=>rw[qyp hi];exact h.mono (by omega)
 |true=>
  unfold Go.Proofs.YtocndcbobdnagaaGreatDoor.rlx;rw[hi];cases hv:d e.2.1 with
  |none=>exact h.mono (by omega)
  |some v=>
   intro i u hu;have hu:(if i=e.1 then some (qlr (w e.2.2) v)else d i)=some u:=hu;by_cases hc:i=e.1
   ·rw[if_pos hc]at hu;cases hu;have:=h _ _ hv;unfold qlr;simp only[];omega
   ·rw[if_neg hc]at hu;have:=h _ _ hu;omega
theorem Bd.pass{w:Nat->Int}{sl:Bool}:∀(L:List Eg) {B:Nat} {s:Bool×Dst},Bd B s.2->(∀e∈L,0<=w e.2.2/\w e.2.2<=1048576)->Bd (B+L.length) (pass w sl L s).2
 |[],B,s,h,_=>h
 |e::L,B,s,h,hw=>by
  have:=Bd.pass (sl:=sl) L (B:=B+1) (s:=q2e w sl s e) (h.rlx (hw e Wf)) fun e' he' =>hw e' (We _ he')
  rw[WA,show B+(L.length+1)=B+1+L.length by omega];exact this
theorem j2v(a:Val)(o:Option Val)(sl:Bool):lm (true,a.1,a.2,()) (wb o) sl=some (match o with|some b=>ltB sl a b|none=>true):=by
 cases o with
 |none=>rfl
 |some b=>
  show(bif !decide (a.1=b.1)then some (!(decide (a.1<b.1)==sl))else some (decide (a.2<b.2)))=some (ltB sl a b);unfold ltB;by_cases h:a.1=b.1
  ·rw[if_pos h,Ws h];rfl
  ·rw[if_neg h,WD h];cases decide (a.1<b.1)<;>cases sl<;>rfl
def ct(q:Nat×Nat):ab:=((q.1:Int),(q.2:Int),())
def nh(p:Nat×List (Nat×Nat)):Int×List ab:=((p.1:Int),p.2.map ct)
def edA(i:Nat)(A:List (Nat×Nat)):List Eg:=A.map fun q=>(i,q.1,q.2)
def flE(es:List (Nat×List (Nat×Nat))):List Eg:=es.flatMap fun p=>edA p.1 p.2
structure GdE (N TT : Nat) (e : Eg) : Prop where
 a : e.1 < N
 b : e.2.1 < N
 t : e.2.2 < TT
structure Wt (W : Int -> Option Int) (w : Nat -> Int) (TT : Nat) : Prop where
 eq : ∀ t, t < TT -> W (t : Int) = some (w t)
 b : ∀ t, t < TT -> 0 <= w t /\ w t <= 1048576
theorem j1j{W:Int->Option Int}{w:Nat->Int}{N TT:Nat}(hW:Wt W w TT)(sl:Bool)(i:Nat)(hi:i<N)(hN:N<=100000)(A:List (Nat×Nat))(hA:∀e∈edA i A,GdE N TT e){B:Nat}(b0:Bool){d:Dst}(hd:Bd B d)(hB:B+A.length<=1000000)(v24 v25:Int)(v28:List (Int×List ab))(g30:List (Int×List ab))(g31 g32:Int):
  jxb W sl (i:Int) v24 v25 v28 (A.map ct) ((A.map ct).length:Int) g30 g31 g32 (b0,0,uu N d)=some (.inl ((pass w sl (edA i A) (b0,d)).1,uu N (pass w sl (edA i A) (b0,d)).2)):=by
 have hlA:(A.map ct).length=A.length:=by rw[Ww]
 have eT:edA i A=edA i (A.take A.length):=by rw[WW]
 rw[hlA];rw[eT];refine jp (fun k:Nat=>((pass w sl (edA i (A.take k)) (b0,d)).1,(k:Int),uu N (pass w sl (edA i (A.take k)) (b0,d)).2)) A.length (bm (by omega)) _ (fun k hk=> ?_) ?_ _ (by rfl)
 ·have hBd:=Bd.pass (w:=w) (sl:=sl) (edA i (A.take k)) (s:=(b0,d)) hd fun e he=>hW.b _ (hA e (by
   unfold edA at he⊢;obtain⟨q,hq,rfl⟩:=WG.1 he;exact WG.2 ⟨q,K2 hq,rfl⟩)).t
  have hlt:(edA i (A.take k)).length=k:=by unfold edA;rw[Ww,Kg];omega
  rw[hlt]at hBd;have e1:pass w sl (edA i (A.take (k+1))) (b0,d)=q2e w sl (pass w sl (edA i (A.take k)) (b0,d)) (i,(A.getD k (0,0)).1,(A.getD k (0,0)).2):=by
   rw[cw A k (0,0) hk];unfold edA;rw[Kq];unfold pass;rw[Kv];rfl
  have hg:(A.map ct).getD k ab.z=ct (A.getD k (0,0)):=la _ _ _ _ _ hk;have hge:=hA (i,(A.getD k (0,0)).1,(A.getD k (0,0)).2) (WG.2 ⟨_,ay (0,0) hk,rfl⟩);rw[e1];generalize pass w sl (edA i (A.take k)) (b0,d)=s at hBd;obtain⟨b1,d1⟩:=s;generalize A.getD k (0,0)=q at hg hge;obtain⟨to,t⟩:=q;have hge1:to<N:=hge.b;have hge2:t<TT:=hge.t;have hWt:=hW.eq t hge2;have hwb:=hW.b t hge2;have hl:=qpb N d1;have h1:(uu N d1).getD to ae.z=wb (d1 to):=qjf hge1 _;have h2:(uu N d1).getD i ae.z=wb (d1 i):=qjf hi _;have hkl:k<(A.map ct).length:=by rw[hlA];exact hk
  have hm1:(ct (to,t)).1=(to:Int):=rfl;have hm2:(ct (to,t)).2.1=(t:Int):=rfl;cases hv:d1 to with
  |none=>
   obtain⟨r1,r2⟩:=joy (w:=w) (sl:=sl) (d:=d1) (e:=(i,to,t)) hv;have e2:q2e w sl (b1,d1) (i,to,t)=(b1,d1):=by
    unfold q2e;simp only[r1,r2,Bool.or_false]
   rw[e2];rw[hv]at h1;have hc:(wb none).1=false:=rfl;simp(disch:=omega)only[q3e,hg,hm1,hl,h1,hc,WP,am,rs]
  |some v=>
   rw[hv]at h1;have hb:=hBd _ _ hv;have hc1:(wb (some v)).1=true:=rfl;have hc2:(wb (some v)).2.1=v.1:=rfl;have hc3:(wb (some v)).2.2.1=v.2:=rfl;have hls:=j2v (qlr (w t) v) (d1 i) sl;unfold qlr at hls;simp only[]at hls;have hi2:qt9 w sl d1 (i,to,t)=match d1 i with|some b=>ltB sl (v.1+w t,v.2+1) b|none=>true:=by
    unfold qt9;simp only[];rw[hv];rfl
   rw[<-hi2]at hls;cases hI:qt9 w sl d1 (i,to,t)with
   |false=>
    rw[hI]at hls;have e2:q2e w sl (b1,d1) (i,to,t)=(b1,d1):=by
     unfold q2e;simp only[hI,qyp hI,Bool.or_false]
    rw[e2];simp(disch:=omega)only[q3e,hg,hm1,hm2,hl,h1,h2,hc1,hc2,hc3,hWt,hls,Wv,am,rs]
   |true=>
    rw[hI]at hls;have e2:q2e w sl (b1,d1) (i,to,t)=(true,j3e d1 i (v.1+w t,v.2+1)):=by
     unfold q2e rlx;simp only[hI,hv,Bool.or_true];rfl
    have hs:=joh N d1 i (v.1+w t,v.2+1);simp only[]at hs;rw[e2];simp(disch:=omega)only[q3e,hg,hm1,hm2,hl,h1,h2,hc1,hc2,hc3,hWt,hls,hs,Wv,am,rs]
 ·simp(disch:=omega)only[q3e,hlA,rs]
abbrev Ens:Type:=List (Nat×List (Nat×Nat))
def jct(N TT:Nat)(es:Ens):Prop:=∀p∈es,p.1<N/\∀e∈edA p.1 p.2,GdE N TT e
theorem qos(p:Nat×List (Nat×Nat))(es:Ens):flE (p::es)=edA p.1 p.2++flE es:=rfl
theorem jdi{N TT:Nat}{es:Ens}(h:jct N TT es):∀e∈flE es,GdE N TT e:=fun e he=>by
 obtain⟨p,hp,he⟩:=List.mem_flatMap.1 he;exact(h p hp).2 e he
theorem jsc{W:Int->Option Int}{w:Nat->Int}{N TT:Nat}(hW:Wt W w TT)(sl:Bool)(hN:N<=100000)(v24 v25:Int)(v28:List (Int×List ab))(g30:List (Int×List ab))(g31 g32:Int):
  ∀(es:Ens) (B:Nat) (b0:Bool) (d:Dst),jct N TT es->Bd B d->B+(flE es).length<=1000000->
  jj1 W sl v24 v25 v28 g30 g31 g32 (es.map nh) (b0,uu N d)=some (.inl ((pass w sl (flE es) (b0,d)).1,uu N (pass w sl (flE es) (b0,d)).2))
 |[],B,b0,d,_,_,_=>rfl
 |p::es,B,b0,d,hg,hd,hB=>by
  rw[qos,Wx]at hB;have hp:=hg p Wf;have hlA:(edA p.1 p.2).length=p.2.length:=by unfold edA;rw[Ww]
  have h0:=j1j hW sl p.1 hp.1 hN p.2 hp.2 b0 hd (by omega) v24 v25 v28 g30 g31 g32;have hd' :=Bd.pass (w:=w) (sl:=sl) (edA p.1 p.2) (s:=(b0,d)) hd fun e he=>hW.b _ (hp.2 e he).t
  have ih:=jsc hW sl hN v24 v25 v28 g30 g31 g32 es (B+(edA p.1 p.2).length) (pass w sl (edA p.1 p.2) (b0,d)).1 (pass w sl (edA p.1 p.2) (b0,d)).2 (fun q hq=>hg q (We _ hq)) hd' (by omega);have e1:pass w sl (flE (p::es)) (b0,d)=pass w sl (flE es) (pass w sl (edA p.1 p.2) (b0,d)):=by
   rw[qos];unfold pass;rw[Kv]
  rw[e1];have e2:jj2 W sl v24 v25 v28 g30 g31 g32 b0 (uu N d) (nh p) (fun a' =>some (Sum.inl a' :(Bool×List ae)⊕List ae)) (fun r=>some (.inr r))=some (.inl ((pass w sl (edA p.1 p.2) (b0,d)).1,uu N (pass w sl (edA p.1 p.2) (b0,d)).2)):=by
   unfold jj2 nh;simp only[];rw[h0];rfl
  unfold jj1;rw[Kd];simp only[qim,e2];exact ih
def jqe(x:Int×List ab):Nat×List (Nat×Nat):=(x.1.toNat,x.2.map fun a=>(a.1.toNat,a.2.1.toNat))
theorem jsm(p:Nat×List (Nat×Nat)):jqe (nh p)=p:=by
 obtain⟨i,A⟩:=p;unfold jqe nh;simp only[WN,Hx];congr 1;have:((fun a:ab=>(a.1.toNat,a.2.1.toNat))∘ct)=id:=by
  funext q;obtain⟨a,b⟩:=q;simp[ct]
 rw[this,List.map_id]
theorem j3b{es:Ens}{l:List (Int×List ab)}(h:l.Perm (es.map nh)):∃es' :Ens,l=es'.map nh/\es'.Perm es:=by
 refine⟨l.map jqe,?_,?_⟩
 ·rw[Hx];have:l.map (nh∘jqe)=l.map id:=Hz fun x hx=>by
   obtain⟨p,hp,rfl⟩:=WG.1 (h.mem_iff.1 hx);show nh (jqe (nh p))=nh p;rw[jsm]
  rw[this,List.map_id]
 ·have:=h.map jqe;rw[Hx]at this;have e:es.map (jqe∘nh)=es.map id:=Hz fun p _=>jsm p
  rw[e,List.map_id]at this;exact this
theorem jx7{es es' :Ens}(h:es'.Perm es):(∀e,e∈flE es' ↔e∈flE es)/\(flE es').length=(flE es).length:=by
 have hp:(flE es').Perm (flE es):=h.flatMap_right _;exact⟨fun e=>hp.mem_iff,hp.length_eq⟩
def jdc(g:Nat):Dst:=fun i=>if i=g then some (0,0)else none
section
variable {w : Nat -> Int} {g : Nat} {sl : Bool} {E : Eg -> Prop}
theorem jne:Snd E w g (jdc g):=fun i v h=>by
 unfold jdc at h;by_cases hi:i=g
 ·rw[if_pos hi]at h;cases h;rw[hi];exact .nil
 ·rw[if_neg hi]at h;cases h
theorem jnd:Atl E w g sl 0 (jdc g):=fun i v h hv=>by
 cases h with
 |nil=>exact⟨(0,0),if_pos rfl,qv0 _⟩
 | @cons _ b t u he hw=>
  have:=hw.pos;simp only[qlr]at hv;omega
theorem j15:Bd 0 (jdc g):=fun i v h=>by
 unfold jdc at h;by_cases hi:i=g
 ·rw[if_pos hi]at h;cases h;simp
 ·rw[if_neg hi]at h;cases h
def j16(w:Nat->Int)(sl:Bool)(g:Nat)(L:List Eg):Nat->Dst
 |0=>jdc g
 |k+1=>(pass w sl L (false,j16 w sl g L k)).2
theorem jsp{L:List Eg}(hL:∀e,E e↔e∈L):∀k,Snd E w g (j16 w sl g L k)/\Atl E w g sl k (j16 w sl g L k)
 |0=>⟨jne,jnd⟩
 |k+1=>by
  obtain⟨h1,h2⟩:=jsp hL k;exact⟨jeg L _ (fun e he=> .inl ((hL e).2 he)) h1,joi (fun e he=>(hL e).1 he) h2⟩
end
section
variable {W : Int -> Option Int} {w : Nat -> Int} {N TT g : Nat} {sl : Bool} {es : Ens}
structure BG (W : Int -> Option Int) (w : Nat -> Int) (N TT g : Nat) (sl : Bool) (es : Ens) : Prop where
 wt : Wt W w TT
 good : jct N TT es
 len : (flE es).length <= 2000
 n100 : N <= 100
 gl : g < N
 cyc : qzo (fun e => e ∈ flE es) w sl g
noncomputable abbrev q3i(W:Int->Option Int)(sl:Bool)(N g:Nat)(es:Ens){Q:Type}(a:Int×List ae)(nx:Int×List ae->Option Q)(dn:List ae->Option Q)(rt:List ae->Option Q):Option Q:=
 q3f (R:=Q) W sl ((N:Int)+1) (es.map nh) (g:Int) (N:Int) a.1 a.2 nx dn rt
structure BI (w : Nat -> Int) (g : Nat) (sl : Bool) (es : Ens) (k : Nat) (d : Dst) : Prop where
 snd : Snd (fun e => e ∈ flE es) w g d
 atl : Atl (fun e => e ∈ flE es) w g sl k d
 bd : Bd (k * 2000) d
theorem BI.opt(h:BG W w N TT g sl es){k:Nat}{d:Dst}(hi:BI w g sl es k d)(hk:N<=k):Opt (fun e=>e∈flE es) w g sl d:=jsa (fun e he=>(jdi h.good e he).a) h.cyc hk hi.atl
theorem BI.pass(h:BG W w N TT g sl es){k:Nat}{d:Dst}(hi:BI w g sl es k d)(hk:k<=N){es' :Ens}(hp:es'.Perm es)(v24 v25:Int)(v28 g30:List (Int×List ab))(g31 g32:Int):
  jj1 W sl v24 v25 v28 g30 g31 g32 (es'.map nh) (false,uu N d)=some (.inl ((Go.Proofs.YtocndcbobdnagaaGreatDoor.pass w sl (flE es') (false,d)).1,uu N (Go.Proofs.YtocndcbobdnagaaGreatDoor.pass w sl (flE es') (false,d)).2))/\
  BI w g sl es (k+1) (Go.Proofs.YtocndcbobdnagaaGreatDoor.pass w sl (flE es') (false,d)).2/\
  ((Go.Proofs.YtocndcbobdnagaaGreatDoor.pass w sl (flE es') (false,d)).1=false->(Go.Proofs.YtocndcbobdnagaaGreatDoor.pass w sl (flE es') (false,d)).2=d/\Opt (fun e=>e∈flE es) w g sl d):=by
 obtain⟨h1,h2⟩:=jx7 hp;have hg' :jct N TT es' :=fun p hp' =>h.good p (hp.mem_iff.1 hp')
 have hN:=h.n100;have hlen:=h.len;have hb:=Bd.pass (w:=w) (sl:=sl) (flE es') (s:=(false,d)) hi.bd fun e he=>h.wt.b _ (jdi hg' e he).t
 refine⟨jsc h.wt sl (by omega) v24 v25 v28 g30 g31 g32 es' (k*2000) false d hg' hi.bd (by omega),⟨jeg _ _ (fun e he=> .inl ((h1 e).1 he)) hi.snd,joi (fun e he=>(h1 e).2 he) hi.atl,hb.mono (by omega)⟩,fun hf=> ?_⟩;obtain⟨_,e2,e3⟩:=jiv _ _ hf;refine⟨e2,jz3 (L:=flE es') (fun e he=>(h1 e).2 he) (fun i v hw hv=>hi.atl i v hw (by omega)) e3⟩
theorem j1l(h:BG W w N TT g sl es){dO:Dst}(hs:Snd (fun e=>e∈flE es) w g dO)(ho:Opt (fun e=>e∈flE es) w g sl dO):∀(f k:Nat) (d:Dst),k+f=N+1->BI w g sl es k d->
  ndN (q3i W sl N g es) (fun e=>some e) (fun r=>some r) (uu N dO) (f+1) ((k:Int),uu N d):=by
 have hN:=h.n100;intro f
 induction f with
 |zero=>
  intro k d hk hi;have e:d=dO:=qkm hi.snd (hi.opt h (by omega)) hs ho;show q3i W sl N g es _ _ _ _=some ();unfold q3i q3f;rw[jj7 (by simp only[];omega)];exact k7.2 (by rw[e])
 |succ f ih=>
  intro k d hk hi;show q3i W sl N g es _ _ _ _=some ();unfold q3i q3f;rw[jp2 (by simp only[];omega)];refine qyq fun l hl=> ?_
  obtain⟨es',rfl,hp⟩:=j3b hl;obtain⟨h1,h2,h3⟩:=hi.pass h (by omega) hp ((N:Int)+1) (k:Int) (es.map nh) (es.map nh) (g:Int) (N:Int);refine⟨_,h1,?_⟩;rw[q7m];cases hb:(Go.Proofs.YtocndcbobdnagaaGreatDoor.pass w sl (flE es') (false,d)).1 with
  |false=>
   obtain⟨e2,e3⟩:=h3 hb;simp only[WP,WQ];refine k7.2 ?_;rw[e2,qkm hi.snd e3 hs ho]
  |true=>
   simp only[Wv,W9];rw[jkc (by omega) (by omega),am];exact k7.2 (ih (k+1) _ (by omega) h2)
theorem j1m(h:BG W w N TT g sl es){dO:Dst}(hs:Snd (fun e=>e∈flE es) w g dO)(ho:Opt (fun e=>e∈flE es) w g sl dO)(r' :List ae):∀(n k:Nat) (d:Dst),k<=N+1->BI w g sl es k d->
  ndN (q3i W sl N g es) (fun e=>some e) (fun r=>some r) r' n ((k:Int),uu N d)->r' =uu N dO:=by
 have hN:=h.n100;intro n
 induction n with
 |zero=>intro k d _ _ hn;exact hn.elim
 |succ n ih=>
  intro k d hk hi hn;have hn:q3i W sl N g es ((k:Int),uu N d) (fun s' =>tell (ndN (q3i W sl N g es) (fun e=>some e) (fun r=>some r) r' n s')) (fun e=>tell (some e=some r')) (fun x=>tell (some x=some r'))=some ():=hn;unfold q3i q3f at hn;by_cases hkN:k<N+1
  ·rw[jp2 (by simp only[];omega)]at hn;obtain⟨y,hy,hlk⟩:=qyr hn _ (Kl _);obtain⟨h1,h2,h3⟩:=hi.pass h (by omega) (Kl es) ((N:Int)+1) (k:Int) (es.map nh) (es.map nh) (g:Int) (N:Int);rw[h1]at hy;cases hy;rw[q7m]at hlk;cases hb:(Go.Proofs.YtocndcbobdnagaaGreatDoor.pass w sl (flE es) (false,d)).1 with
   |false=>
    rw[hb]at hlk;simp only[WP,WQ]at hlk;obtain⟨e2,e3⟩:=h3 hb;have:=k7.1 hlk;rw[e2,qkm hi.snd e3 hs ho]at this;exact(Kp this).symm
   |true=>
    rw[hb]at hlk;simp only[Wv,W9]at hlk;rw[jkc (by omega) (by omega),am]at hlk;exact ih (k+1) _ (by omega) h2 (k7.1 hlk)
  ·rw[jj7 (by simp only[];omega)]at hn;have:=k7.1 hn;have e:d=dO:=qkm hi.snd (hi.opt h (by omega)) hs ho;simp only[e]at this;exact(Kp this).symm
theorem j1k(h:BG W w N TT g sl es):∃d,jp1 (es.map nh) (g:Int) (N:Int) W sl=some (uu N d)/\Snd (fun e=>e∈flE es) w g d/\Opt (fun e=>e∈flE es) w g sl d:=by
 have hN:=h.n100;have hg:=h.gl;obtain⟨hs,ha⟩:=jsp (E:=fun e=>e∈flE es) (w:=w) (g:=g) (sl:=sl) (L:=flE es) (fun e=>Iff.rfl) N;have ho:=jsa (fun e he=>(jdi h.good e he).a) h.cyc (Wg N) ha;generalize j16 w sl g (flE es) N=dO at hs ha ho;have hi0:BI w g sl es 0 (jdc g):=⟨jne,jnd,j15.mono (W7 _)⟩;have h1:=j1l h hs ho (N+1) 0 (jdc g) (by omega) hi0;have h2:=jqy (s:=(((0:Nat):Int),uu N (jdc g))) h1 fun r' n' hn=>j1m h hs ho r' n' 0 (jdc g) (by omega) hi0 hn
 refine⟨dO,?_,hs,ho⟩;have e0:List.replicate N (ae.z:ae)=uu N fun _=>none:=qsf N _
 have e1:(List.replicate N (ae.z:ae)).set g (true,0,0,())=uu N (jdc g):=by
  rw[e0];refine(joh N (fun _=>none) g (0,0)).trans ?_;congr 1
 have hl:(List.replicate N (ae.z:ae)).length=N:=WT;have hz:(List.replicate N (ae.z:ae)).getD g ae.z=ae.z:=by
  rw[e0];exact qjf hg _
 have hz1:(ae.z).2.1=(0:Int):=rfl;have hz2:(ae.z).2.2.1=(0:Int):=rfl;unfold jp1;rw[WN];simp(disch:=omega)only[hl,hz,hz1,hz2,e1,rs];exact h2
end
def qje(e:Eg):ak:=mvA e.1 e.2.1 e.2.2
def wtT(ts:List ag)(sl:Bool)(t:Nat):Int:=bif sl then(ts.getD t ag.z).2.1 else(ts.getD t ag.z).1
def Rch(E:Eg->Prop)(i j:Nat):Prop:=∃l,IsW E i l j
theorem Rch.refl{E:Eg->Prop}(i:Nat):Rch E i i:=⟨[],rfl⟩
theorem Rch.trans{E:Eg->Prop}{i j k:Nat}(h:Rch E i j)(h' :Rch E j k):Rch E i k:=by
 obtain⟨l,h⟩:=h;obtain⟨l',h'⟩:=h';exact⟨l++l',IsW.app.2 ⟨j,h,h'⟩⟩
theorem Rch.edge{E:Eg->Prop}{e:Eg}(h:E e):Rch E e.1 e.2.1:=⟨[e],rfl,h,rfl⟩
theorem Rch.step{E:Eg->Prop}{e:Eg}{j:Nat}(h:E e)(h' :Rch E e.2.1 j):Rch E e.1 j:=(Rch.edge h).trans h'
theorem IsW.mono{E E' :Eg->Prop}(hE:∀e,E e->E' e):∀{l:List Eg} {i j:Nat},IsW E i l j->IsW E' i l j
 |[],_,_,h=>h
 |e::l,_,_,⟨h1,h2,h3⟩=>⟨h1,hE _ h2,IsW.mono hE h3⟩
theorem Rch.mono{E E' :Eg->Prop}(hE:∀e,E e->E' e){i j:Nat}(h:Rch E i j):Rch E' i j:=by
 obtain⟨l,h⟩:=h;exact⟨l,h.mono hE⟩
theorem j0z(l:List Eg):wtL (fun _=>0) l=0:=by
 induction l with
 |nil=>rfl
 |cons e l ih=>rw[qhz,ih];rfl
theorem jad{E:Eg->Prop}{N i j:Nat}(hE:∀e,E e->e.1<N)(h:Rch E i j):∃l,IsW E i l j/\l.length<=N:=by
 obtain⟨l,h⟩:=h;obtain⟨l',h1,h2,_⟩:=qr8 (w:=fun _=>0) (sl:=false) hE (fun _ l _ _=>by rw[j0z];exact Kc _) l.length l i (Wg _) h;exact⟨l',h1,h2⟩
abbrev Mk:Type:=Nat->Bool
def qud(N:Nat)(c:Mk):List Bool:=bv N c
def jvx(c:Mk)(i:Nat):Mk:=fun j=>if j=i then true else c j
theorem jof(N:Nat)(c:Mk):(qud N c).length=N:=qyv _ _
theorem jch{N:Nat}{c:Mk}{i:Nat}(h:i<N):(qud N c).getD i false=c i:=qx2 h
theorem jog(N:Nat)(c:Mk)(i:Nat):(qud N c).set i true=qud N (jvx c i):=qyw
def q2g(P:Eg->Bool)(s:Bool×Mk)(e:Eg):Bool×Mk:=bif P e&&(s.2 e.2.1&& !s.2 e.1)then(true,jvx s.2 e.1)else s
abbrev scn(P:Eg->Bool)(L:List Eg)(s:Bool×Mk):Bool×Mk:=L.foldl (q2g P) s
section
variable {P : Eg -> Bool} {g : Nat}
abbrev EP(P:Eg->Bool)(L:List Eg)(e:Eg):Prop:=e∈L/\P e=true
def Sou(E:Eg->Prop)(g:Nat)(c:Mk):Prop:=∀i,c i=true->Rch E i g
def Cov(E:Eg->Prop)(g k:Nat)(c:Mk):Prop:=∀i l,IsW E i l g->l.length<=k->c i=true
def All(E:Eg->Prop)(g:Nat)(c:Mk):Prop:=∀i,Rch E i g->c i=true
theorem qf8(P:Eg->Bool)(s:Bool×Mk)(e:Eg):(q2g P s e=s/\¬(P e=true/\s.2 e.2.1=true/\s.2 e.1=false))\/((P e=true/\s.2 e.2.1=true/\s.2 e.1=false)/\q2g P s e=(true,jvx s.2 e.1)):=by
 unfold q2g;cases h1:P e<;>cases h2:s.2 e.2.1<;>cases h3:s.2 e.1<;>simp
theorem jth{c:Mk}{i j:Nat}(h:c j=true):jvx c i j=true:=by
 unfold jvx;split
 ·rfl
 ·exact h
theorem jri:∀(L:List Eg) (s:Bool×Mk) (j:Nat),s.2 j=true->(scn P L s).2 j=true
 |[],s,j,h=>h
 |e::L,s,j,h=>by
  refine jri L (q2g P s e) j ?_;rcases qf8 P s e with⟨e1,_⟩|⟨_,e1⟩<;>rw[e1]
  ·exact h
  ·exact jth h
theorem jtu{E:Eg->Prop}:∀(L:List Eg) (s:Bool×Mk),(∀e∈L,P e=true->E e)->Sou E g s.2->Sou E g (scn P L s).2
 |[],s,_,h=>h
 |e::L,s,hL,h=>by
  refine jtu L (q2g P s e) (fun e' he' =>hL e' (We _ he')) ?_;rcases qf8 P s e with⟨e1,_⟩|⟨⟨h1,h2,h3⟩,e1⟩<;>rw[e1]
  ·exact h
  ·intro i hi;have hi:(if i=e.1 then true else s.2 i)=true:=hi;by_cases hc:i=e.1
   ·rw[hc];exact Rch.step (hL e Wf h1) (h _ h2)
   ·rw[if_neg hc]at hi;exact h i hi
theorem jz6:∀(L:List Eg) (s:Bool×Mk) (e:Eg),e∈L->P e=true->s.2 e.2.1=true->(scn P L s).2 e.1=true
 |[],s,e,he,_,_=>by cases he
 |e' ::L,s,e,he,hp,hv=>by
  rcases Wr.1 he with rfl|he
  ·refine jri L (q2g P s e) e.1 ?_;rcases qf8 P s e with⟨e1,hn⟩|⟨_,e1⟩<;>rw[e1]
   ·cases h3:s.2 e.1 with
    |true=>rfl
    |false=>exact absurd ⟨hp,hv,h3⟩ hn
   ·exact if_pos rfl
  ·refine jz6 L (q2g P s e') e he hp ?_;rcases qf8 P s e' with⟨e1,_⟩|⟨_,e1⟩<;>rw[e1]
   ·exact hv
   ·exact jth hv
theorem j3s{E:Eg->Prop}{L:List Eg}{s:Bool×Mk}{k:Nat}(hL:∀e,E e->e∈L/\P e=true)(h:Cov E g k s.2):Cov E g (k+1) (scn P L s).2:=by
 intro i l hl hk;cases l with
 |nil=>exact jri L s i (h i [] hl (W7 _))
 |cons e l=>
  obtain⟨h1,h2,h3⟩:=hl;rw[<-h1];obtain⟨h4,h5⟩:=hL e h2;exact jz6 L s e h4 h5 (h _ l h3 (by simp at hk;omega))
theorem joz:∀(L:List Eg) (s:Bool×Mk),(scn P L s).1=false->(scn P L s)=s/\∀e∈L,¬(P e=true/\s.2 e.2.1=true/\s.2 e.1=false)
 |[],s,_=>⟨rfl,fun e he=>by cases he⟩
 |e::L,s,h=>by
  obtain⟨h1,h2⟩:=joz L (q2g P s e) h;have hf:(q2g P s e).1=false:=by rw[<-h1];exact h
  rcases qf8 P s e with⟨e1,hn⟩|⟨_,e1⟩
  ·rw[e1]at h1 h2;refine⟨?_,fun e' he' => ?_⟩
   ·show scn P L (q2g P s e)=s;rw[e1,h1]
   ·rcases Wr.1 he' with rfl|he'
    ·exact hn
    ·exact h2 e' he'
  ·rw[e1]at hf;cases hf
theorem jqc{E:Eg->Prop}{L:List Eg}{c:Mk}(hL:∀e,E e->e∈L/\P e=true)(h0:c g=true)(h:∀e∈L,¬(P e=true/\c e.2.1=true/\c e.1=false)):All E g c:=by
 rintro i ⟨l,hl⟩
 induction l generalizing i with
 |nil=>rw[show i=g from hl];exact h0
 |cons e l ih=>
  obtain⟨h1,h2,h3⟩:=hl;rw[<-h1];obtain⟨h4,h5⟩:=hL e h2;cases hc:c e.1 with
  |true=>rfl
  |false=>exact absurd ⟨h5,ih _ h3,hc⟩ (h e h4)
theorem jmq{E:Eg->Prop}{c:Mk}(hs:Sou E g c)(ha:All E g c):∀(L:List Eg) (b:Bool),(∀e∈L,P e=true->E e)->scn P L (b,c)=(b,c)
 |[],b,_=>rfl
 |e::L,b,hL=>by
  have h1:q2g P (b,c) e=(b,c):=by
   rcases qf8 P (b,c) e with⟨e1,_⟩|⟨⟨h1,h2,h3⟩,_⟩
   ·exact e1
   ·have:=ha e.1 (Rch.step (hL e Wf h1) (hs _ h2));rw[show c e.1=false from h3]at this;cases this
  show scn P L (q2g P (b,c) e)=_;rw[h1];exact jmq hs ha L b fun e' he' =>hL e' (We _ he')
theorem j1w{E:Eg->Prop}{N k:Nat}{c:Mk}(hE:∀e,E e->e.1<N)(hk:N<=k)(h:Cov E g k c):All E g c:=fun i hi=>by
 obtain⟨l,h1,h2⟩:=jad hE hi;exact h i l h1 (by omega)
end
def mk0(g:Nat):Mk:=fun j=>decide (j=g)
theorem jy9{E:Eg->Prop}{g:Nat}:Sou E g (mk0 g)/\Cov E g 0 (mk0 g):=by
 refine⟨fun i hi=> ?_,fun i l hl hk=> ?_⟩
 ·rw[show i=g from W8 hi];exact Rch.refl g
 ·cases l with
  |nil=>exact Ws hl
  |cons e l=>simp at hk
def kIx(es:Ens)(i:Nat):Option Nat:=pc (fun p:Nat×List (Nat×Nat)=>decide (p.1=i)) es
def jvc(es:Ens)(e:Eg):Ens:=match kIx es e.1 with|some j=>es.set j (e.1,(es.getD j (0,[])).2++[e.2])|none=>es++[(e.1,[e.2])]
def m6(L:List Eg)(i:Nat):List (Nat×Nat):=(L.filter fun e=>decide (e.1=i)).map fun e=>e.2
abbrev grp(L:List Eg):Ens:=L.foldl jvc []
theorem qbh(L:List Eg)(e:Eg)(i:Nat):m6 (L++[e]) i=if e.1=i then m6 L i++[e.2]else m6 L i:=by
 unfold m6;rw[Hp];by_cases h:e.1=i
 ·rw[if_pos h,K6 (by rw[Ws h]),HN,Kq];rfl
 ·rw[if_neg h,KQ (by rw[WD h];decide),HN,Kx]
theorem f9{L:List Eg}{i:Nat}{q:Nat×Nat}:q∈m6 L i↔(i,q.1,q.2)∈L:=by
 unfold m6;rw[WG];constructor
 ·rintro⟨e,he,rfl⟩;obtain⟨h1,h2⟩:=Kf.1 he;rw[<-W8 h2];exact h1
 ·intro h;exact⟨(i,q.1,q.2),Kf.2 ⟨h,Ws rfl⟩,rfl⟩
structure GrpOK (L : List Eg) (es : Ens) : Prop where
 row : ∀ p ∈ es, p.2 = m6 L p.1 /\ p.2 ≠ []
 nd : (es.map (·.1)).Nodup
 key : ∀ i, m6 L i ≠ [] -> ∃ p ∈ es, p.1 = i
 len : (flE es).length = L.length
theorem jnr{es:Ens}{i j:Nat}(h:kIx es i=some j):j<es.length/\(es.getD j (0,[])).1=i:=by
 obtain⟨h1,h2,_⟩:=qcb (0,[]) h;exact⟨h1,W8 h2⟩
theorem jyu{es:Ens}{i:Nat}(h:kIx es i=none):∀p∈es,p.1≠i:=fun p hp=>of_decide_eq_false (qjt h p hp)
theorem q9o:∀(es:Ens) (j:Nat) (q:Nat×Nat),j<es.length->(flE (es.set j ((es.getD j (0,[])).1,(es.getD j (0,[])).2++[q]))).length=(flE es).length+1
 |[],j,q,h=>by simp at h
 |p::es,0,q,_=>by
  show(flE ((p.1,p.2++[q])::es)).length=_;rw[qos,qos,Wx,Wx];unfold edA;simp only[Ww,Wx,WA,KG];omega
 |p::es,j+1,q,h=>by
  have:=q9o es j q (by simpa using h);have e:(p::es).getD (j+1) (0,[])=es.getD j (0,[]):=by simp
  rw[e];show(flE (p::es.set j _)).length=_;rw[qos,qos,Wx,Wx,this];omega
theorem jko(es:Ens)(i:Nat)(q:Nat×Nat):(flE (es++[(i,[q])])).length=(flE es).length+1:=by
 unfold flE;rw[List.flatMap_append,Wx];rfl
theorem jyg{L:List Eg}{es:Ens}(h:GrpOK L es)(e:Eg):GrpOK (L++[e]) (jvc es e):=by
 unfold jvc;cases hk:kIx es e.1 with
 |none=>
  have hn:=jyu hk;have hr:m6 L e.1=[]:=by
   cases hr:m6 L e.1 with
   |nil=>rfl
   |cons a l=>
    obtain⟨p,hp,hpe⟩:=h.key e.1 (by rw[hr];exact List.cons_ne_nil _ _);exact absurd hpe (hn p hp)
  refine⟨fun p hp=> ?_,?_,fun i hi=> ?_,by simp only[jko,h.len,Wx,WA,KG]⟩
  ·rcases WS.1 hp with hp|hp
   ·rw[qbh,if_neg (fun e' =>hn p hp e'.symm)];exact h.row p hp
   ·rw[Wm.1 hp,qbh,if_pos rfl,hr];exact⟨rfl,List.cons_ne_nil _ _⟩
  ·rw[Kq];refine Hj.2 ⟨h.nd,by simp,fun a ha b hb=> ?_⟩;obtain⟨p,hp,rfl⟩:=WG.1 ha;simp only[Kd,KH,Wm]at hb;rw[hb];exact hn p hp
  ·rw[qbh]at hi;by_cases hc:e.1=i
   ·exact⟨_,Ke _ (Wm.2 rfl),hc⟩
   ·rw[if_neg hc]at hi;obtain⟨p,hp,hpi⟩:=h.key i hi;exact⟨p,Kh _ hp,hpi⟩
 |some j=>
  obtain⟨h1,h2⟩:=jnr hk;have hmem:=ay (0,[]) h1;obtain⟨r1,r2⟩:=h.row _ hmem;rw[h2]at r1;have hkeys:(es.set j (e.1,(es.getD j (0,[])).2++[e.2])).map (·.1)=es.map (·.1):=by
   rw[List.map_set];have:(es.map (·.1))[j]? =some e.1:=by
    rw[W6,Wi h1,Wd,<-h2,jo es j _ h1]
   exact KX fun k=>by
    rw[KY];by_cases hjk:j=k
    ·subst hjk;rw[if_pos rfl,if_pos (by rw[Ww];exact h1),this]
    ·rw[if_neg hjk]
  refine⟨fun p hp=> ?_,by simp only[];rw[hkeys];exact h.nd,fun i hi=> ?_,?_⟩
  ·rcases List.mem_or_eq_of_mem_set hp with hp' |rfl
   ·by_cases hpe:p.1=e.1
    ·
     obtain⟨k,hkl,hkp⟩:=List.mem_iff_getElem.1 hp;have hkl' :k<es.length:=by rw[WB]at hkl;exact hkl
     by_cases hjk:j=k
     ·subst hjk;rw[List.getElem_set_self]at hkp;rw[<-hkp,qbh,if_pos rfl,r1];exact⟨rfl,by simp⟩
     ·rw[List.getElem_set_ne hjk]at hkp;have e1:(es.map (·.1))[k]? =some e.1:=by rw[W6,Wi hkl',Wd,hkp,hpe]
      have e2:(es.map (·.1))[j]? =some e.1:=by rw[W6,Wi h1,Wd,<-h2,jo es j _ h1]
      exact absurd ((List.getElem?_inj (by rw[Ww];exact h1) h.nd).1 (e2.trans e1.symm)) hjk
    ·rw[qbh,if_neg (fun e' =>hpe e'.symm)];exact h.row p hp'
   ·rw[qbh,if_pos rfl,r1];exact⟨rfl,by simp⟩
  ·rw[qbh]at hi;have:∃p∈es,p.1=i:=by
    by_cases hc:e.1=i
    ·exact⟨_,hmem,h2.trans hc⟩
    ·rw[if_neg hc]at hi;exact h.key i hi
   obtain⟨p,hp,hpi⟩:=this;have hm:i∈es.map (·.1):=WG.2 ⟨p,hp,hpi⟩;rw[<-hkeys]at hm;obtain⟨p',hp',hpi'⟩:=WG.1 hm;exact⟨p',hp',hpi'⟩
  ·have:=q9o es j e.2 h1;rw[h2]at this;simp only[Wx,WA,KG];rw[this,h.len]
theorem jkp(L:List Eg):GrpOK L (grp L):=by
 refine jfs (P:=fun L=>GrpOK L (grp L)) ⟨(fun p hp=>by cases hp),List.nodup_nil,fun i hi=>absurd rfl hi,rfl⟩ (fun L e ih=> ?_) L;have:grp (L++[e])=jvc (grp L) e:=by unfold grp;rw[Kv];rfl
 rw[this];exact jyg ih e
theorem jsv{L:List Eg}{es:Ens}(h:GrpOK L es)(e:Eg):e∈flE es↔e∈L:=by
 unfold flE;rw[List.mem_flatMap];constructor
 ·rintro⟨p,hp,he⟩;unfold edA at he;obtain⟨q,hq,rfl⟩:=WG.1 he;rw[(h.row p hp).1]at hq;exact f9.1 hq
 ·intro he;have h1:e.2∈m6 L e.1:=f9.2 he;obtain⟨p,hp,hpe⟩:=h.key e.1 (List.ne_nil_of_mem h1);refine⟨p,hp,WG.2 ⟨e.2,by rw[(h.row p hp).1,hpe];exact h1,?_⟩⟩;rw[hpe]
theorem jyf{N TT:Nat}{L:List Eg}{es:Ens}(h:GrpOK L es)(hL:∀e∈L,GdE N TT e):jct N TT es:=fun p hp=>by
 have h1:∀e∈edA p.1 p.2,GdE N TT e:=fun e he=>hL e ((jsv h e).1 (List.mem_flatMap.2 ⟨p,hp,he⟩))
 refine⟨?_,h1⟩;cases hr:p.2 with
 |nil=>exact absurd hr (h.row p hp).2
 |cons q l=>
  exact(h1 (p.1,q.1,q.2) (by rw[hr];exact WG.2 ⟨q,Wf,rfl⟩)).a
theorem jqu(i:Nat):∀(es:Ens) (k:Nat),mIx (.int .i64) (i:Int) (es.map nh) k=Option.map (fun j:Nat=>j+k) (kIx es i)
 |[],k=>rfl
 |p::es,k=>by
  have hq:∀b:Bool,(bif b then some k else mIx (.int .i64) (i:Int) (es.map nh) (k+1))=Option.map (fun j:Nat=>j+k) (bif b then some 0 else(kIx es i).map (·+1)):=fun b=>by
   cases b with
   |true=>simp
   |false=>
    rw[W9,W9,jqu i es (k+1)];cases kIx es i with
    |none=>rfl
    |some j=>simp;omega
  have e1:qsv (i:Int) (nh p).1=decide (p.1=i):=by
   unfold qsv nh;rw[Ki];simp;omega
  show(bif qsv (i:Int) (nh p).1 then some k else mIx (.int .i64) (i:Int) (es.map nh) (k+1))=_;rw[e1];exact hq _
theorem jn3(i:Nat):∀(es:Ens),bz (.int .i64) (i:Int) (es.map nh)=Option.map (fun p:Nat×List (Nat×Nat)=>p.2.map ct) (es.find? fun p=>decide (p.1=i))
 |[]=>rfl
 |p::es=>by
  have e1:qsv (i:Int) (nh p).1=decide (p.1=i):=by
   unfold qsv nh;rw[Ki];simp;omega
  show(bif qsv (i:Int) (nh p).1 then some (nh p).2 else bz (.int .i64) (i:Int) (es.map nh))=_;rw[e1,List.find?_cons,jn3 i es];cases decide (p.1=i)<;>rfl
theorem jr9{L:List Eg}{es:Ens}(h:GrpOK L es)(i:Nat):oj ab.ty (bz (.int .i64) (i:Int) (es.map nh))=(m6 L i).map ct:=by
 refine(W0 (fun o:Option (List ab)=>oj ab.ty o) (jn3 i es)).trans ?_;cases hf:es.find? fun p=>decide (p.1=i)with
 |some p=>
  have h1:=List.find?_some hf;have h2:=List.mem_of_find?_eq_some hf;show p.2.map ct=_;rw[(h.row p h2).1,W8 h1]
 |none=>
  have hr:m6 L i=[]:=by
   cases hr:m6 L i with
   |nil=>rfl
   |cons a l=>
    obtain⟨p,hp,hpi⟩:=h.key i (by rw[hr];exact List.cons_ne_nil _ _);have:=List.find?_eq_none.1 hf p hp;exact absurd (Ws hpi) this
  rw[hr];rfl
abbrev qne:Eg->Bool:=fun _=>true
theorem jtj{N TT:Nat}(hN:N<=100000)(nE:List Eg)(hE:∀e∈nE,GdE N TT e)(hl:nE.length<=1000000)(b0:Bool)(c:Mk)(v60:List (Int×List ab))(v61 v62:Int)(st:List (List Int))(mv:List ak)(fu:Bool)(g1 g2:Int)(g0:List (Int×List ab)):
  qmy (nE.map qje) ((nE.map qje).length:Int) v60 v61 v62 st mv fu g1 g2 g0 (b0,0,qud N c)=some (.inl ((scn qne nE (b0,c)).1,qud N (scn qne nE (b0,c)).2)):=by
 have hlA:(nE.map qje).length=nE.length:=by rw[Ww]
 rw[hlA];have eT:scn qne nE (b0,c)=scn qne (nE.take nE.length) (b0,c):=by rw[WW]
 rw[eT];refine jp (fun k:Nat=>((scn qne (nE.take k) (b0,c)).1,(k:Int),qud N (scn qne (nE.take k) (b0,c)).2)) nE.length (bm (by omega)) _ (fun k hk=> ?_) ?_ _ (by rfl)
 ·have e1:scn qne (nE.take (k+1)) (b0,c)=q2g qne (scn qne (nE.take k) (b0,c)) (nE.getD k (0,0,0)):=by
   rw[cw nE k (0,0,0) hk];unfold scn;rw[Kv];rfl
  have hg:(nE.map qje).getD k ak.z=qje (nE.getD k (0,0,0)):=la _ _ _ _ _ hk;have hge:=hE _ (ay (0,0,0) hk);rw[e1];generalize scn qne (nE.take k) (b0,c)=s;obtain⟨b1,c1⟩:=s;generalize nE.getD k (0,0,0)=e at hg hge;obtain⟨i,to,t⟩:=e;have hi:i<N:=hge.a;have hge1:to<N:=hge.b;have hlc:=jof N c1;have h1:(qud N c1).getD to false=c1 to:=jch hge1;have h2:(qud N c1).getD i false=c1 i:=jch hi;have hs:=jog N c1 i;have hkl:k<(nE.map qje).length:=by rw[hlA];exact hk
  have hm0:(qje (i,to,t)).1=(i:Int):=rfl;have hm1:(qje (i,to,t)).2.1=(to:Int):=rfl;unfold q2g;simp only[];cases hv:c1 to with
  |false=>
   rw[hv]at h1;simp(disch:=omega)only[j7,hg,hm0,hm1,hlc,h1,Hq,Bool.false_and,am,rs]
  |true=>
   rw[hv]at h1;cases hu:c1 i with
   |true=>
    rw[hu]at h2;simp(disch:=omega)only[j7,hg,hm0,hm1,hlc,h1,h2,Wv,Hq,am,rs]
   |false=>
    rw[hu]at h2;simp(disch:=omega)only[j7,hg,hm0,hm1,hlc,h1,h2,hs,WP,Hq,am,rs]
 ·simp(disch:=omega)only[j7,hlA,rs]
theorem j3f{N TT g:Nat}(hN:N<=100000)(nE:List Eg)(hE:∀e∈nE,GdE N TT e)(hl:nE.length<=1000000)(v60:List (Int×List ab))(v61 v62:Int)(st:List (List Int))(fu:Bool)(g1 g2:Int)(g0:List (Int×List ab)):∀(f k:Nat) (c:Mk),k+f=N->Sou (EP qne nE) g c->Cov (EP qne nE) g k c->
  ∃c',xh (fun a=>j8 v60 v61 v62 st (nE.map qje) fu g1 g2 g0 a.1 a.2 (fun a' =>some (.next a')) (fun e=>some (.done e)) (fun r=>some (.ret r))) (f+2) (true,qud N c)=some (.inl (qud N c'))/\Sou (EP qne nE) g c' /\All (EP qne nE) g c' :=by
 intro f
 induction f with
 |zero=>
  intro k c hk hs ha;have ho:=j1w (N:=N) (fun e he=>(hE e he.1).a) (by omega) ha;have hp:=jmq (P:=qne) hs ho nE false fun e he hp=>⟨he,hp⟩
  have h0:=jtj hN nE hE hl false c v60 v61 v62 st (nE.map qje) fu g1 g2 g0;rw[hp]at h0;refine⟨c,?_,hs,ho⟩;rw[ce];simp(disch:=omega)only[j8,h0,rs];rfl
 |succ f ih=>
  intro k c hk hs ha;have h0:=jtj hN nE hE hl false c v60 v61 v62 st (nE.map qje) fu g1 g2 g0;have hs' :=jtu (P:=qne) nE (false,c) (fun e he hp=>(⟨he,hp⟩:EP qne nE e)) hs;have ha' :=j3s (P:=qne) (L:=nE) (s:=(false,c)) (fun e he=>he) ha;rw[ce];cases hc:(scn qne nE (false,c)).1 with
  |false=>
   obtain⟨e2,e3⟩:=joz _ _ hc;rw[e2]at h0;refine⟨c,?_,hs,jqc (P:=qne) (L:=nE) (fun e he=>he) (ha g [] rfl (W7 _)) e3⟩;simp(disch:=omega)only[j8,h0,rs];rfl
  |true=>
   rw[hc]at h0;obtain⟨d',q1,q2⟩:=ih (k+1) _ (by omega) hs' ha';refine⟨d',?_,q2⟩;rw[<-q1];simp(disch:=omega)only[j8,h0,rs];rfl
def gdL(c:Mk)(nE:List Eg):List Eg:=nE.filter fun e=>c e.1&&c e.2.1
theorem j2l{es:Ens}{i j:Nat}(h:kIx es i=some j)(x:List (Nat×Nat)):kIx (es.set j (i,x)) i=some j:=by
 obtain⟨h1,_,h3⟩:=qcb (0,[]) h;refine jst (0,[]) (by rw[WB];exact h1) ?_ fun k hk=> ?_
 ·rw[Wa,Wl h1];exact Ws rfl
 ·rw[Wa,WF (by omega),<-Wa];exact h3 k hk
theorem js7{es:Ens}{j:Nat}(h:j<es.length):qeh (es.map nh) j=(es.getD j (0,[])).2.map ct:=by
 unfold qeh;rw[W6,Wi h,jo es j _ h];rfl
theorem j20{es:Ens}{j:Nat}(h:j<es.length)(x:List (Nat×Nat)):quc (es.map nh) j (x.map ct)=(es.set j ((es.getD j (0,[])).1,x)).map nh:=by
 unfold quc;rw[W6,Wi h,jo es j _ h,List.map_set];rfl
theorem j3n{L:List Eg}{es:Ens}(h:GrpOK L es){j:Nat}(hj:j<es.length):(es.getD j (0,[])).2.length<=L.length:=by
 rw[(h.row _ (ay (0,[]) hj)).1];unfold m6;rw[Ww];exact Kr _ _
theorem j3g{N TT:Nat}(hN:N<=100000)(nE:List Eg)(hE:∀e∈nE,GdE N TT e)(hl:nE.length<=100000)(c:Mk)(v60:List (Int×List ab))(v61 v62:Int)(g1 g2:Int):
  qm0 (qud N c) (nE.map qje) ((nE.map qje).length:Int) v60 v61 v62 g1 g2 (0,[])=some (.inl ((grp (gdL c nE)).map nh)):=by
 have hlA:(nE.map qje).length=nE.length:=by rw[Ww]
 rw[hlA];have eT:grp (gdL c nE)=grp (gdL c (nE.take nE.length)):=by rw[WW]
 rw[eT];refine jp (fun k:Nat=>((k:Int),(grp (gdL c (nE.take k))).map nh)) nE.length (bm (by omega)) _ (fun k hk=> ?_) ?_ _ (by rfl)
 ·have e0:gdL c (nE.take (k+1))=gdL c (nE.take k)++[nE.getD k (0,0,0)].filter fun e=>c e.1&&c e.2.1:=by
   rw[cw nE k (0,0,0) hk];unfold gdL;rw[Hp]
  have hg:(nE.map qje).getD k ak.z=qje (nE.getD k (0,0,0)):=la _ _ _ _ _ hk;have hge:=hE _ (ay (0,0,0) hk);have hok:=jkp (gdL c (nE.take k));have hlk:(gdL c (nE.take k)).length<=nE.length:=by
   unfold gdL;refine Kb (Kr _ _) ?_;rw[Kg];omega
  rw[e0];generalize gdL c (nE.take k)=L at hok hlk;generalize nE.getD k (0,0,0)=e at hg hge;obtain⟨i,to,t⟩:=e;have hi:i<N:=hge.a;have hge1:to<N:=hge.b;have hlc:=jof N c;have h1:(qud N c).getD to false=c to:=jch hge1;have h2:(qud N c).getD i false=c i:=jch hi;have hkl:k<(nE.map qje).length:=by rw[hlA];exact hk
  have hm0:(qje (i,to,t)).1=(i:Int):=rfl;have hm1:(qje (i,to,t)).2.1=(to:Int):=rfl;have hm2:(qje (i,to,t)).2=ct (to,t):=rfl;have hm3:(ct (to,t)).1=(to:Int):=rfl;cases hv:c i with
  |false=>
   rw[hv]at h2;rw[KQ (by simp[hv]),HN,Kx];simp(disch:=omega)only[gi,hg,hm0,hlc,h2,am,rs]
  |true=>
   rw[hv]at h2;cases hu:c to with
   |false=>
    rw[hu]at h1;rw[KQ (by simp[hu]),HN,Kx];simp(disch:=omega)only[gi,hg,hm0,hm1,hlc,h1,h2,am,rs]
   |true=>
    rw[hu]at h1;rw[K6 (by simp only[hv,hu,KT]),HN];have e5:grp (L++[(i,to,t)])=jvc (grp L) (i,to,t):=by unfold grp;rw[Kv];rfl
    rw[e5];unfold jvc;simp only[];have hmi:=jqu i (grp L) 0;cases hk2:kIx (grp L) i with
    |none=>
     rw[hk2]at hmi;have hmi:mIx (.int .i64) (i:Int) ((grp L).map nh) 0=none:=hmi;have e6:((grp L++[(i,[(to,t)])]).map nh)=(grp L).map nh++[((i:Int),[ct (to,t)])]:=by rw[Kq];rfl
     simp only[e6];simp(disch:=omega)only[gi,hg,hm0,hm1,hm2,hm3,hlc,h1,h2,am,rs];split
     ·rename_i ix h;exact absurd (h.symm.trans hmi) (by simp)
     ·rfl
    |some j=>
     rw[hk2]at hmi;have hmi:mIx (.int .i64) (i:Int) ((grp L).map nh) 0=some j:=hmi;obtain⟨q1,q2⟩:=jnr hk2;have q3:=j3n hok q1;have e7:qeh ((grp L).map nh) j++[ct (to,t)]=(((grp L).getD j (0,[])).2++[(to,t)]).map ct:=by
      rw[js7 q1,Kq];rfl
     have e8:=j20 q1 (((grp L).getD j (0,[])).2++[(to,t)]);rw[q2]at e8;have e9:mIx (.int .i64) (i:Int) (((grp L).set j (i,((grp L).getD j (0,[])).2++[(to,t)])).map nh) 0=some j:=by
      have:=jqu i ((grp L).set j (i,((grp L).getD j (0,[])).2++[(to,t)])) 0;rw[j2l hk2]at this;exact this
     simp only[];rw[<-e8];have e9:mIx (.int .i64) (i:Int) (quc ((grp L).map nh) j ((((grp L).getD j (0,[])).2++[(to,t)]).map ct)) 0=some j:=(W0 (fun l:List (Int×List ab)=>mIx (.int .i64) (i:Int) l 0) e8).trans e9;simp(disch:=omega)only[gi,hg,hm0,hm1,hm2,hm3,hlc,h1,h2,am,rs];split
     ·rename_i ix h;obtain rfl:ix=j:=Kp (h.symm.trans hmi);rw[e7];have hb:Nat.blt ix ((grp L).map nh).length=true:=by rw[HW,Ww];exact q1
      have hb2:(Nat.beq 2 2&&Nat.beq ix ix&&Nat.beq 0 0)=true:=by simp
      have hml:(qeh ((grp L).map nh) ix).length<=nE.length:=by rw[js7 q1,Ww];omega
      rw[qgp hb,jm6 (by omega) (by omega),qgp hb2];refine qgp ?_ _;split
      ·rename_i i' h';obtain rfl:i' =ix:=Kp (h'.symm.trans e9);exact W5 _
      ·rename_i h';exact absurd (h'.symm.trans e9) (by simp)
     ·rename_i h;exact absurd (h.symm.trans hmi) (by simp)
 ·simp(disch:=omega)only[gi,hlA,rs]
def jun(b:ag):Bool:=(b.2.2.1&& !decide (b.2.1=0))||(!b.2.2.1&&(decide (b.2.1<b.1)||decide ((1048576:Int)<b.2.1)))||decide (b.1<0)||decide ((1048576:Int)<b.1)
theorem jwo(b:ag):qa4 b=some (jun b):=by
 obtain⟨l,g,o,u⟩:=b;unfold qa4 jun;simp only[];cases o<;>cases decide (g=0)<;>cases decide (g<l)<;>cases decide ((1048576:Int)<g)<;>cases decide (l<0)<;>cases decide ((1048576:Int)<l)<;>rfl
def oy(ts:List ag)(T:Nat):Bool:=decide (ts.length=T)&& !ts.any jun
theorem jvy{n:bk}{ts:List ag}(hl:ts.length<=1000000):qgt n ts=some (oy ts n.2.1.length):=by
 have hL:ib ts (ts.length:Int) 0=some (jqi (fun i=>(i:Int)) (pc jun ts)):=by
  refine qju ts ag.z jun (fun i=>(i:Int)) (by omega) (fun i hi=> ?_) ?_
  ·simp(disch:=omega)only[ch,jwo,rs];rw[am];exact j0d
  ·simp(disch:=omega)only[ch,rs]
 unfold qgt dh d8 oy;rw[hL,df,q36,df,df,jb8];have e:decide ((ts.length:Int)=(n.2.1.length:Int))=decide (ts.length=n.2.1.length):=by
  rw[Ki,HC,HC];omega
 rw[e];cases decide (ts.length=n.2.1.length)<;>rfl
theorem j30{ts:List ag}{T:Nat}(h:oy ts T=true){t:Nat}(ht:t<ts.length):
  0<=(ts.getD t ag.z).1/\(ts.getD t ag.z).1<=1048576/\0<=(ts.getD t ag.z).2.1/\(ts.getD t ag.z).2.1<=1048576/\((ts.getD t ag.z).2.2.1=true->(ts.getD t ag.z).2.1=0)/\((ts.getD t ag.z).2.2.1=false->(ts.getD t ag.z).1<=(ts.getD t ag.z).2.1):=by
 unfold oy at h;rw[Wc,WE]at h;have:=KW.1 h.2 _ (ay ag.z ht);generalize ts.getD t ag.z=b at this;obtain⟨l,g,o,u⟩:=b;unfold jun at this;cases o<;>simp at this⊢<;>omega
theorem sj{ts:List ag}{T:Nat}(h:oy ts T=true):ts.length=T:=by
 unfold oy at h;rw[Wc]at h;exact W8 h.1
theorem qll{ts:List ag}{T:Nat}(h:oy ts T=true)(sl:Bool):∀t,t<ts.length->0<=wtT ts sl t/\wtT ts sl t<=1048576:=fun t ht=>by
 have:=j30 h ht;unfold wtT;cases sl
 ·simp only[W9];omega
 ·simp only[WQ];omega
def egs(J:Sig):List Eg:=J.2.2.map fun x=>(x.1.toNat,x.2.1.toNat,x.2.2.1.toNat)
theorem q1d{n:bk}{M:Nat}{m:List Int}{J:Sig}(h:SpcOK n M m J):J.2.2=(egs J).map qje/\(∀e∈egs J,GdE J.2.1.length n.2.1.length e)/\(egs J).length<=M*n.2.1.length:=by
 refine⟨?_,fun e he=> ?_,by unfold egs;rw[Ww];exact h.ml⟩
 ·unfold egs;rw[Hx]
  conv=>lhs;rw[<-List.map_id J.2.2]
  refine Hz fun x hx=> ?_
  obtain⟨a,b,t,rfl,_⟩:=h.mv x hx;simp[qje,mvA]
 ·unfold egs at he;obtain⟨x,hx,rfl⟩:=WG.1 he;obtain⟨a,b,t,rfl,h1,h2,h3,_⟩:=h.mv x hx;exact⟨by simp[mvA];exact h1,by simp[mvA];exact h2,by simp[mvA];exact h3⟩
theorem jb6{J:Sig}{n:bk}{M:Nat}{m:List Int}(h:SpcOK n M m J){a b t:Nat}:(a,b,t)∈egs J↔mvA a b t∈J.2.2:=by
 obtain⟨h1,_⟩:=q1d h;constructor
 ·intro he;rw[h1];exact WG.2 ⟨_,he,rfl⟩
 ·intro he;unfold egs;exact WG.2 ⟨_,he,by simp[mvA]⟩
theorem jww{L:List Eg}{i j:Nat}:Rch (EP qne L) i j↔Rch (fun e=>e∈L) i j:=⟨Rch.mono fun e he=>he.1,Rch.mono fun e he=>⟨he,rfl⟩⟩
structure GG (n : bk) (m : List Int) (M : Nat) (J : Sig) (N g : Nat) (nE : List Eg) (c : Mk) : Prop where
 ok : SpcOK n M m J
 full : J.1 = true
 eN : N = J.2.1.length
 eE : nE = egs J
 M100 : M <= 100
 gl : g < N
 fin : d9 J g = vp n.1 n.2.2.2.1
 leads : ∀ i, c i = true ↔ Rch (fun e => e ∈ nE) i g
 tr : n.2.1.length <= 20
theorem GG.good{n:bk}{m:List Int}{M:Nat}{J:Sig}{N g:Nat}{nE:List Eg}{c:Mk}(h:GG n m M J N g nE c):∀e∈nE,GdE N n.2.1.length e:=by
 rw[h.eE,h.eN];exact(q1d h.ok).2.1
theorem GG.mvs{n:bk}{m:List Int}{M:Nat}{J:Sig}{N g:Nat}{nE:List Eg}{c:Mk}(h:GG n m M J N g nE c):J.2.2=nE.map qje:=by
 rw[h.eE];exact(q1d h.ok).1
theorem GG.len{n:bk}{m:List Int}{M:Nat}{J:Sig}{N g:Nat}{nE:List Eg}{c:Mk}(h:GG n m M J N g nE c):nE.length<=2000/\N<=100:=by
 have h1:=(q1d h.ok).2.2;have h2:=h.ok.sp.len;have h3:=h.M100;have h4:=h.tr;rw[h.eE,h.eN];have:M*n.2.1.length<=100*20:=Nat.mul_le_mul h3 h4;omega
abbrev gEs(c:Mk)(nE:List Eg):List (Int×List ab):=(grp (gdL c nE)).map nh
theorem jia(st:List (List Int))(x:List Int):(jy4 st x= -1/\x∉st)\/∃g:Nat,jy4 st x=(g:Int)/\g<st.length/\st.getD g []=x:=by
 unfold jy4 jvb;cases h:pc (fun y:List Int=>decide (y=x)) st with
 |none=>exact .inl ⟨rfl,fun hx=>by have:=qjt h x hx;simp at this⟩
 |some g=>
  obtain⟨h1,h2,_⟩:=qcb [] h;exact .inr ⟨g,rfl,h1,W8 h2⟩
theorem j2f{c:Mk}{nE:List Eg}{g:Nat}(hc:∀i,c i=true↔Rch (fun e=>e∈nE) i g)(hg:¬g=0):(0<(m6 (gdL c nE) 0).length)↔c 0=true:=by
 constructor
 ·intro h;obtain⟨q,hq⟩:=List.exists_mem_of_length_pos h;have:=f9.1 hq;unfold gdL at this;have h2:=(Kf.1 this).2;rw[Wc]at h2;exact h2.1
 ·intro h;obtain⟨l,hl⟩:=(hc 0).1 h;cases l with
  |nil=>exact absurd (show 0=g from hl).symm hg
  |cons e l=>
   obtain⟨h1,h2,h3⟩:=hl;have h4:c e.2.1=true:=(hc _).2 ⟨l,h3⟩;have h5:e∈gdL c nE:=Kf.2 ⟨h2,by rw[h1,h,h4];rfl⟩;have h6:e.2∈m6 (gdL c nE) 0:=f9.2 (by rw[<-h1];exact h5);exact List.length_pos_of_mem h6
theorem jzx{c:Mk}{nE:List Eg}{g:Nat}(hc:∀i,c i=true↔Rch (fun e=>e∈nE) i g)(N:Int):∃x,me (gEs c nE) (g:Int) N=some (x,c 0):=by
 unfold me;by_cases hg:g=0
 ·subst hg;refine⟨0,?_⟩;rw[(hc 0).2 (Rch.refl 0)];rfl
 ·have h1:=jr9 (jkp (gdL c nE)) 0;refine⟨(g:Int),?_⟩;rw[jj5 (by omega)];have h2:(oj ab.ty (bz (.int .i64) (0:Int) (gEs c nE))).length=(m6 (gdL c nE) 0).length:=by
   refine(W0 (fun l:List ab=>l.length) h1).trans ?_;exact Ww _
  have h3:decide ((0:Int)<((oj ab.ty (bz (.int .i64) (0:Int) (gEs c nE))).length:Int))=c 0:=by
   rw[h2,Ki,HC];have:=j2f hc hg;exact⟨fun hq=>this.1 (by omega),fun hq=>by have:=this.2 hq;omega⟩
  rw[h3]
theorem jyd{n:bk}(h:Small n)(htr:n.2.1.length<=20){m:List Int}(hl:m.length<=1000){ts:List ag}(hts:ts.length<=1000)(most:Int):
  vj n m ts most=bif oy ts n.2.1.length then db n m most else some ([],0,0,1):=by
 have hV:=qjx h;have hT:=jvy (n:=n) (ts:=ts) (by omega);have hE:=qjw h m (by omega);unfold vj;cases hv:dp n with
 |false=>
  rw[hv]at hV hE;have he:db n m most=some ([],0,0,1):=by
   unfold db;simp(disch:=omega)only[hE,Bool.false_and,rs]
  rw[he];simp(disch:=omega)only[hV,WP,rs];cases oy ts n.2.1.length<;>rfl
 |true=>
  rw[hv]at hV;cases ht:oy ts n.2.1.length with
  |false=>
   rw[ht]at hT;simp(disch:=omega)only[hV,hT,Wv,WP,rs]
  |true=>
   rw[ht]at hT;simp(disch:=omega)only[hV,hT,Wv,rs];cases db n m most<;>rfl
def qr(ks:List Nat):List (Int×Bool):=ks.map fun(k:Nat)=>((k:Int),true)
def qL(ks:List Nat)(k:Nat):List Int:=(ks.drop k).map fun(j:Nat)=>(j:Int)
theorem jdo(a b:Nat):qsv (a:Int) (b:Int)=decide (b=a):=by
 unfold qsv;rw[Ki];simp;omega
theorem jk5(j:Nat):∀ks:List Nat,(bz (.int .i64) (j:Int) (qr ks)).getD false=decide (j∈ks)
 |[]=>by simp[qr,bz]
 |a::ks=>by
  show(bif qsv (j:Int) (a:Int)then some true else bz (.int .i64) (j:Int) (qr ks)).getD false=_;rw[jdo];by_cases h:a=j
  ·rw[Ws h];subst h;simp
  ·rw[WD h,W9,jk5 j ks];have h' :¬j=a:=fun e=>h e.symm
   simp[h']
theorem jk6(j:Nat):∀ks:List Nat,j∉ks->qdf (.int .i64) (j:Int) true (qr ks)=qr (ks++[j])
 |[],_=>rfl
 |a::ks,h=>by
  have h1:¬a=j:=fun e=>h (by rw[e];exact Wf)
  show(bif qsv (j:Int) (a:Int)then _ else((a:Int),true)::qdf (.int .i64) (j:Int) true (qr ks))=_;rw[jdo,WD h1];exact W0 (List.cons ((a:Int),true)) (jk6 j ks fun hm=>h (We _ hm))
theorem jtl(ks:List Nat)(j k:Nat)(h:k<=ks.length):qL (ks++[j]) k=qL ks k++[(j:Int)]:=by
 unfold qL;rw[List.drop_append_of_le_length h,Kq];rfl
theorem qw1(ks:List Nat)(k:Nat):(qL ks k).length=ks.length-k:=by
 unfold qL;rw[Ww,Hk]
theorem jtk{ks:List Nat}{k:Nat}(h:k<ks.length):(qL ks k).getD 0 0=((ks.getD k 0:Nat):Int):=by
 unfold qL;rw[la _ _ _ 0 _ (by rw[Hk];omega),Wa,WI,KU,<-Wa]
theorem jtm{ks:List Nat}{k:Nat}(h:k<ks.length):((qL ks k).drop 1).take ((qL ks k).length-1)=qL ks (k+1):=by
 rw[List.take_of_length_le (by rw[Hk];exact Wg _)];unfold qL;rw[<-List.map_drop,List.drop_drop]
def qlv(ks:List Nat)(j:Nat):List Nat:=if j∈ks then ks else ks++[j]
abbrev mn(ks ts:List Nat):List Nat:=ts.foldl qlv ks
theorem jyo{ks:List Nat}{j i:Nat}:i∈qlv ks j↔i∈ks\/i=j:=by
 unfold qlv;by_cases h:j∈ks
 ·rw[if_pos h];exact⟨.inl,fun h' =>h'.elim id fun e=>e▸h⟩
 ·rw[if_neg h,WS,Wm]
theorem qog:∀{ts ks:List Nat} {i:Nat},i∈mn ks ts↔i∈ks\/i∈ts
 |[],ks,i=>by simp
 |t::ts,ks,i=>by
  show i∈mn (qlv ks t) ts↔_;rw[qog,jyo,Wr,or_assoc]
theorem j2i{ks:List Nat}(h:ks.Nodup)(j:Nat):(qlv ks j).Nodup:=by
 unfold qlv;by_cases hj:j∈ks
 ·rw[if_pos hj];exact h
 ·rw[if_neg hj];exact Hj.2 ⟨h,by simp,fun a ha b hb=>by rw[Wm.1 hb];exact fun e=>hj (e▸ha)⟩
theorem jr3:∀{ts ks:List Nat},ks.Nodup->(mn ks ts).Nodup
 |[],_,h=>h
 |t::ts,ks,h=>jr3 (ts:=ts) (j2i h t)
theorem jyp(ks:List Nat)(j:Nat):ks.length<=(qlv ks j).length/\∀k,k<ks.length->(qlv ks j).getD k 0=ks.getD k 0:=by
 unfold qlv;by_cases hj:j∈ks
 ·rw[if_pos hj];exact⟨Wg _,fun _ _=>rfl⟩
 ·rw[if_neg hj];exact⟨by simp,fun k hk=>qg7 _ _ _ _ hk⟩
theorem qoh:∀(ts ks:List Nat),ks.length<=(mn ks ts).length/\∀k,k<ks.length->(mn ks ts).getD k 0=ks.getD k 0
 |[],ks=>⟨Wg _,fun _ _=>rfl⟩
 |t::ts,ks=>by
  obtain⟨h1,h2⟩:=jyp ks t;obtain⟨h3,h4⟩:=qoh ts (qlv ks t);exact⟨Kb h1 h3,fun k hk=>(h4 k (by omega)).trans (h2 k hk)⟩
structure BFS (E : Eg -> Prop) (F : Nat -> List Nat) (N s k : Nat) (ks : List Nat) : Prop where
 nd : ks.Nodup
 lt : ∀ j ∈ ks, j < N
 st : s ∈ ks
 rch : ∀ j ∈ ks, Rch E s j
 cl : ∀ i, i < k -> ∀ j ∈ F (ks.getD i 0), j ∈ ks
 le : k <= ks.length
section
variable {E : Eg -> Prop} {F : Nat -> List Nat} {N s k : Nat} {ks : List Nat}
theorem BFS.len(h:BFS E F N s k ks):ks.length<=N:=by
 have:=qym ks (List.range N) h.nd fun x hx=>Kk.2 (h.lt x hx)
 rwa[Hi]at this
theorem BFS.start(hs:s<N):BFS E F N s 0 [s]:=⟨by simp,fun j hj=>by rw[Wm.1 hj];exact hs,Wm.2 rfl,fun j hj=>by rw[Wm.1 hj];exact Rch.refl s,fun i hi=>by omega,W7 _⟩
theorem BFS.next(h:BFS E F N s k ks)(hk:k<ks.length)(hF:∀i j,j∈F i->(∃t,E (i,j,t))/\j<N):BFS E F N s (k+1) (mn ks (F (ks.getD k 0))):=by
 obtain⟨h1,h2⟩:=qoh (F (ks.getD k 0)) ks;refine⟨jr3 h.nd,fun j hj=> ?_,qog.2 (.inl h.st),fun j hj=> ?_,fun i hi j hj=> ?_,by omega⟩
 ·rcases qog.1 hj with hj|hj
  ·exact h.lt j hj
  ·exact(hF _ j hj).2
 ·rcases qog.1 hj with hj|hj
  ·exact h.rch j hj
  ·obtain⟨⟨t,ht⟩,_⟩:=hF _ j hj;exact(h.rch _ (ay 0 hk)).trans (Rch.edge ht)
 ·rw[h2 i (by omega)]at hj;by_cases hik:i=k
  ·rw[hik]at hj;exact qog.2 (.inr hj)
  ·exact qog.2 (.inl (h.cl i (by omega) j hj))
theorem BFS.all(h:BFS E F N s k ks)(hk:¬k<ks.length)(hF:∀e,E e->e.2.1∈F e.1):∀j,Rch E s j->j∈ks:=by
 have hcl:∀i∈ks,∀j∈F i,j∈ks:=fun i hi j hj=>by
  obtain⟨x,hx,rfl⟩:=kq 0 hi;exact h.cl x (by omega) j hj
 rintro j ⟨l,hl⟩;have key:∀(l:List Eg) (i:Nat),i∈ks->IsW E i l j->j∈ks:=fun l=>by
  induction l with
  |nil=>intro i hi hw;rw[<-show i=j from hw];exact hi
  |cons e l ih=>
   rintro i hi ⟨h1,h2,h3⟩;refine ih _ (hcl i hi _ ?_) h3;rw[<-h1];exact hF e h2
 exact key l s h.st hl
end
theorem q62(q:Nat×Nat):(ct q).1=(q.1:Int):=rfl
theorem jc0(q:Nat×Nat):(ct q).2.1=(q.2:Int):=rfl
theorem j2t(to:Int)(A:List (Nat×Nat))(hA:A.length<=100000)(g30:List (Int×List ab))(g31 g32:Int)(ks:List Nat)(hks:ks.length<=100000)(k:Nat)(hk:k<=ks.length):
  oc to (A.map ct) ((A.map ct).length:Int) g30 g31 g32 (0,qr ks,qL ks k)=some (.inl (qr (mn ks (A.map (·.1))),qL (mn ks (A.map (·.1))) k)):=by
 have hlA:(A.map ct).length=A.length:=by rw[Ww]
 rw[hlA];have eT:mn ks (A.map (·.1))=mn ks ((A.take A.length).map (·.1)):=by rw[WW]
 rw[eT];refine jp (fun i:Nat=>((i:Int),qr (mn ks ((A.take i).map (·.1))),qL (mn ks ((A.take i).map (·.1))) k)) A.length (bm (by omega)) _ (fun i hi=> ?_) ?_ _ (by rfl)
 ·have e1:mn ks ((A.take (i+1)).map (·.1))=qlv (mn ks ((A.take i).map (·.1))) (A.getD i (0,0)).1:=by
   rw[cw A i (0,0) hi,Kq];unfold mn;rw[Kv];rfl
  have hpre:=(qoh ((A.take i).map (·.1)) ks).1;have hlen:(mn ks ((A.take i).map (·.1))).length<=ks.length+A.length:=by
   have key:∀(ts:List Nat) (l:List Nat),(mn l ts).length<=l.length+ts.length:=fun ts=>by
    induction ts with
    |nil=>intro l;exact Wg _
    |cons t ts ih=>
     intro l;have h1:=ih (qlv l t);have h2:(qlv l t).length<=l.length+1:=by unfold qlv;split<;>simp
     show(mn (qlv l t) ts).length<=_;rw[WA];omega
   have:=key ((A.take i).map (·.1)) ks;rw[Ww,Kg]at this;omega
  rw[e1];generalize mn ks ((A.take i).map (·.1))=l at hpre hlen;have hg:(A.map ct).getD i ab.z=ct (A.getD i (0,0)):=la _ _ _ _ _ hi;generalize A.getD i (0,0)=q at hg;have hkl:i<(A.map ct).length:=by rw[hlA];exact hi
  have h1:=jk5 q.1 l;have h2:=qw1 l k;unfold qlv;by_cases hm:q.1∈l
  ·rw[if_pos hm];rw[Ws hm]at h1;simp(disch:=omega)only[i6,hg,q62,rs];rw[h1];simp(disch:=omega)only[Wv,am,rs]
  ·rw[if_neg hm];rw[WD hm]at h1;rw[<-jk6 q.1 l hm,jtl l q.1 k (by omega)];simp(disch:=omega)only[i6,hg,q62,rs];rw[h1];simp(disch:=omega)only[WP,am,rs]
 ·simp(disch:=omega)only[i6,hlA,rs]
abbrev tgt(L:List Eg)(i:Nat):List Nat:=(m6 L i).map (·.1)
structure GL (N TT : Nat) (L : List Eg) : Prop where
 good : ∀ e ∈ L, GdE N TT e
 len : L.length <= 2000
 n100 : N <= 100
theorem j0q{N TT:Nat}{L:List Eg}(h:GL N TT L):∀i j,j∈tgt L i->(∃t,(i,j,t)∈L)/\j<N:=fun i j hj=>by
 obtain⟨q,hq,rfl⟩:=WG.1 hj;have h1:=f9.1 hq;exact⟨⟨q.2,h1⟩,(h.good _ h1).b⟩
theorem qyx{L:List Eg}:∀e,e∈L->e.2.1∈tgt L e.1:=fun e he=>WG.2 ⟨e.2,f9.2 he,rfl⟩
theorem qys{N TT:Nat}{L:List Eg}(h:GL N TT L)(i:Nat):(m6 L i).length<=2000:=by
 have:=h.len;unfold m6;rw[Ww];exact Kb (Kr _ _) this
def AM(M:List (Int×List ab))(L:List Eg):Prop:=∀i:Nat,oj ab.ty (bz (.int .i64) (i:Int) M)=(m6 L i).map ct
theorem jw9(L:List Eg):AM ((grp L).map nh) L:=fun i=>jr9 (jkp L) i
theorem js4(s:Nat):qdf (.int .i64) (s:Int) true ([]:List (Int×Bool))=qr [s]:=rfl
theorem j4o(s:Nat):[(s:Int)]=qL [s] 0:=rfl
theorem j2u{N TT:Nat}{L:List Eg}(h:GL N TT L){M:List (Int×List ab)}(hM:AM M L)(s to:Nat)(g31 g32:Int):∀(f k:Nat) (ks:List Nat),k+f=N->BFS (fun e=>e∈L) (tgt L) N s k ks->(∀i,i<k->ks.getD i 0≠to)->
  ∃r:Unit⊕Bool,xh (fun a=>d7 (to:Int) M g31 g32 a.1 a.2 (fun a' =>some (.next a')) (fun e=>some (.done e)) (fun r=>some (.ret r))) (f+1) (qr ks,qL ks k)=some r/\
   ((r= .inl ()/\¬Rch (fun e=>e∈L) s to)\/(r= .inr true/\Rch (fun e=>e∈L) s to)):=by
 have hN:=h.n100;intro f
 induction f with
 |zero=>
  intro k ks hk hb hno;have hl:=hb.len;have hle:=hb.le;have hq:=qw1 ks k;refine⟨.inl (),?_, .inl ⟨rfl,fun hr=> ?_⟩⟩
  ·rw[ce];simp(disch:=omega)only[d7,rs];rfl
  ·obtain⟨x,hx,hxe⟩:=kq 0 (hb.all (by omega) qyx to hr);exact hno x (by omega) hxe
 |succ f ih=>
  intro k ks hk hb hno;have hl:=hb.len;have hle:=hb.le;have hq:=qw1 ks k;rw[ce];by_cases hkl:k<ks.length
  ·have h1:=jtk hkl;by_cases ht:ks.getD k 0=to
   ·refine⟨.inr true,?_, .inr ⟨rfl,ht▸hb.rch _ (ay 0 hkl)⟩⟩;simp(disch:=omega)only[d7,h1,ht,rs];rfl
   ·have hb' :=hb.next hkl (j0q h)
    obtain⟨_,hpre⟩:=qoh (tgt L (ks.getD k 0)) ks;have hrow:=qys h (ks.getD k 0);have h2:=j2t (to:Int) (m6 L (ks.getD k 0)) (by omega) M g31 g32 ks (by omega) k (by omega);have h3:=hM (ks.getD k 0);obtain⟨r,q1,q2⟩:=ih (k+1) _ (by omega) hb' fun i hi=>by
     rw[hpre i (by omega)];by_cases hik:i=k
     ·rw[hik];exact ht
     ·exact hno i (by omega)
    refine⟨r,?_,q2⟩;rw[<-q1];have hl' :=hb'.len;have hle' :=hb'.le;have hq' :=qw1 (mn ks (tgt L (ks.getD k 0))) k;have h4:=jtm (ks:=mn ks (tgt L (ks.getD k 0))) (k:=k) (by omega);generalize mn ks (tgt L (ks.getD k 0))=ks' at h2 h4 hq' hle' hl';generalize ks.getD k 0=x at h1 h2 h3 ht;have h5:oc (to:Int) (oj ab.ty (bz (.int .i64) (x:Int) M)) ((oj ab.ty (bz (.int .i64) (x:Int) M)).length:Int) M g31 g32 (0,qr ks,qL ks k)=some (.inl (qr ks',qL ks' k)):=(W0 (fun A:List ab=>oc (to:Int) A (A.length:Int) M g31 g32 (0,qr ks,qL ks k)) h3).trans h2;simp(disch:=omega)only[d7,h1,h5,WN,h4,rs];rfl
  ·refine⟨.inl (),?_, .inl ⟨rfl,fun hr=> ?_⟩⟩
   ·simp(disch:=omega)only[d7,rs];rfl
   ·obtain⟨x,hx,hxe⟩:=kq 0 (hb.all hkl qyx to hr);exact hno x (by omega) hxe
theorem jy2{N TT:Nat}{L:List Eg}(h:GL N TT L){M:List (Int×List ab)}(hM:AM M L)(s to:Nat)(hs:s<N)(g31 g32:Int):∃b,qx M g31 g32 (s:Int) (to:Int)=some b/\(b=true↔Rch (fun e=>e∈L) s to):=by
 have hN:=h.n100;obtain⟨r,h1,h2⟩:=j2u h hM s to g31 g32 N 0 [s] (by omega) (BFS.start hs) (fun i hi=>by omega);have hL:qfc (to:Int) M g31 g32 (qr [s],qL [s] 0)=some r:=t8 h1 (bm (by omega));unfold qx;rcases h2 with⟨rfl,h2⟩|⟨rfl,h2⟩
 ·refine⟨false,?_,⟨(fun e=>by cases e),fun e=>absurd e h2⟩⟩;simp(disch:=omega)only[js4,j4o,hL,rs]
 ·refine⟨true,?_,⟨fun _=>h2,fun _=>rfl⟩⟩;simp(disch:=omega)only[js4,j4o,hL,rs]
theorem jmj:∀(ts l:List Nat),(mn l ts).length<=l.length+ts.length
 |[],l=>Wg _
 |t::ts,l=>by
  have h1:=jmj ts (qlv l t);have h2:(qlv l t).length<=l.length+1:=by unfold qlv;split<;>simp
  show(mn (qlv l t) ts).length<=_;rw[WA];omega
theorem jw6(ks a b:List Nat):mn ks (a++b)=mn (mn ks a) b:=by
 unfold mn;rw[Kv]
abbrev opT(ts:List ag)(t:Nat):Bool:=(ts.getD t ag.z).2.2.1
abbrev grT(ts:List ag)(t:Nat):Int:=(ts.getD t ag.z).2.1
theorem j27{ts:List ag}(A:List (Nat×Nat))(hA:A.length<=100000)(hT:∀q∈A,q.2<ts.length)(g20:List (Int×List ab))(g21 g22:Int)(ks:List Nat)(hks:ks.length<=100000)(k:Nat)(hk:k<=ks.length):
  (∃q∈A,opT ts q.2=true)/\gu ts (A.map ct) ((A.map ct).length:Int) g20 g21 g22 (0,qr ks,qL ks k)=some (.inr true)\/
  (∀q∈A,opT ts q.2=false)/\gu ts (A.map ct) ((A.map ct).length:Int) g20 g21 g22 (0,qr ks,qL ks k)=some (.inl (qr (mn ks (A.map (·.1))),qL (mn ks (A.map (·.1))) k)):=by
 have hlA:(A.map ct).length=A.length:=by rw[Ww]
 rw[hlA];have key:∀(f i:Nat),i+f=A.length->(∀j,j<i->opT ts (A.getD j (0,0)).2=false)->
   (∃q∈A,opT ts q.2=true)/\xh (fun a=>ci ts (A.map ct) (A.length:Int) g20 g21 g22 a.1 a.2.1 a.2.2 (fun a' =>some (.next a')) (fun e=>some (.done e)) (fun r=>some (.ret r))) (f+1) ((i:Int),qr (mn ks ((A.take i).map (·.1))),qL (mn ks ((A.take i).map (·.1))) k)=some (.inr true)\/
   (∀q∈A,opT ts q.2=false)/\xh (fun a=>ci ts (A.map ct) (A.length:Int) g20 g21 g22 a.1 a.2.1 a.2.2 (fun a' =>some (.next a')) (fun e=>some (.done e)) (fun r=>some (.ret r))) (f+1) ((i:Int),qr (mn ks ((A.take i).map (·.1))),qL (mn ks ((A.take i).map (·.1))) k)=some (.inl (qr (mn ks (A.map (·.1))),qL (mn ks (A.map (·.1))) k)):=by
  intro f
  induction f with
  |zero=>
   intro i hi hno;refine .inr ⟨fun q hq=> ?_,?_⟩
   ·obtain⟨j,hj,rfl⟩:=kq (0,0) hq;exact hno j (by omega)
   ·rw[ce,show i=A.length by omega,WW];simp(disch:=omega)only[ci,rs];rfl
  |succ f ih=>
   intro i hi hno;have hil:i<A.length:=by omega
   have hg:(A.map ct).getD i ab.z=ct (A.getD i (0,0)):=la _ _ _ _ _ hil;have hkl:i<(A.map ct).length:=by rw[hlA];exact hil
   have hqm:=ay (0,0) hil;have hqT:=hT _ hqm;have e1:mn ks ((A.take (i+1)).map (·.1))=qlv (mn ks ((A.take i).map (·.1))) (A.getD i (0,0)).1:=by
    rw[cw A i (0,0) hil,Kq,jw6];rfl
   have hpre:=(qoh ((A.take i).map (·.1)) ks).1;have hlen:(mn ks ((A.take i).map (·.1))).length<=ks.length+A.length:=by
    have:=jmj ((A.take i).map (·.1)) ks;rw[Ww,Kg]at this;omega
   cases ho:opT ts (A.getD i (0,0)).2 with
   |true=>
    refine .inl ⟨⟨_,hqm,ho⟩,?_⟩;rw[ce];generalize A.getD i (0,0)=q at hg hqT ho;simp(disch:=omega)only[ci,hg,q62,jc0,ho,WN,rs];rfl
   |false=>
    have ih' :=ih (i+1) (by omega) fun j hj=>by
     by_cases hji:j=i
     ·rw[hji];exact ho
     ·exact hno j (by omega)
    have hst:xh (fun a=>ci ts (A.map ct) (A.length:Int) g20 g21 g22 a.1 a.2.1 a.2.2 (fun a' =>some (.next a')) (fun e=>some (.done e)) (fun r=>some (.ret r))) (f+1+1) ((i:Int),qr (mn ks ((A.take i).map (·.1))),qL (mn ks ((A.take i).map (·.1))) k)=xh (fun a=>ci ts (A.map ct) (A.length:Int) g20 g21 g22 a.1 a.2.1 a.2.2 (fun a' =>some (.next a')) (fun e=>some (.done e)) (fun r=>some (.ret r))) (f+1) (((i+1:Nat):Int),qr (mn ks ((A.take (i+1)).map (·.1))),qL (mn ks ((A.take (i+1)).map (·.1))) k):=by
     rw[e1,ce];generalize mn ks ((A.take i).map (·.1))=l at hpre hlen;generalize A.getD i (0,0)=q at hg hqT ho;have h1:=jk5 q.1 l;have h2:=qw1 l k;unfold qlv;by_cases hm:q.1∈l
     ·rw[if_pos hm];rw[Ws hm]at h1;simp(disch:=omega)only[ci,hg,q62,jc0,ho,WN,rs];rw[h1];simp(disch:=omega)only[Wv,am,rs];rfl
     ·rw[if_neg hm];rw[WD hm]at h1;rw[<-jk6 q.1 l hm,jtl l q.1 k (by omega)];simp(disch:=omega)only[ci,hg,q62,jc0,ho,WN,rs];rw[h1];simp(disch:=omega)only[WP,am,rs];rfl
    rw[hst];exact ih'
 rcases key A.length 0 (by omega) (fun j hj=>by omega)with⟨h1,h2⟩|⟨h1,h2⟩
 ·exact .inl ⟨h1,t8 h2 (bm (by omega))⟩
 ·exact .inr ⟨h1,t8 h2 (bm (by omega))⟩
theorem j28{N:Nat}{ts:List ag}{L:List Eg}(h:GL N ts.length L){M:List (Int×List ab)}(hM:AM M L)(g31 g32:Int):∀(f k:Nat) (ks:List Nat),k+f=N->BFS (fun e=>e∈L) (tgt L) N 0 k ks->(∀i,i<k->∀q∈m6 L (ks.getD i 0),opT ts q.2=false)->
  ((∃e∈L,Rch (fun e=>e∈L) 0 e.1/\opT ts e.2.2=true)/\xh (fun a=>cj ts M g31 g32 a.1 a.2 (fun a' =>some (.next a')) (fun e=>some (.done e)) (fun r=>some (.ret r))) (f+1) (qr ks,qL ks k)=some (.inr true))\/
  ∃ks',xh (fun a=>cj ts M g31 g32 a.1 a.2 (fun a' =>some (.next a')) (fun e=>some (.done e)) (fun r=>some (.ret r))) (f+1) (qr ks,qL ks k)=some (.inl (qr ks'))/\(∀i,i∈ks' ↔Rch (fun e=>e∈L) 0 i)/\∀e∈L,Rch (fun e=>e∈L) 0 e.1->opT ts e.2.2=false:=by
 have hN:=h.n100;intro f
 induction f with
 |zero=>
  intro k ks hk hb hno;have hl:=hb.len;have hle:=hb.le;have hq:=qw1 ks k;refine .inr ⟨ks,?_,fun i=>⟨hb.rch i,hb.all (by omega) qyx i⟩,fun e he hr=> ?_⟩
  ·rw[ce];simp(disch:=omega)only[cj,rs];rfl
  ·obtain⟨x,hx,hxe⟩:=kq 0 (hb.all (by omega) qyx _ hr);exact hno x (by omega) e.2 (by rw[hxe];exact f9.2 he)
 |succ f ih=>
  intro k ks hk hb hno;have hl:=hb.len;have hle:=hb.le;have hq:=qw1 ks k;by_cases hkl:k<ks.length
  ·have h1:=jtk hkl;have hb' :=hb.next hkl (j0q h)
   obtain⟨_,hpre⟩:=qoh (tgt L (ks.getD k 0)) ks;have hrow:=qys h (ks.getD k 0);have hrch:=hb.rch _ (ay 0 hkl);have h3:=hM (ks.getD k 0);have h2:=j27 (ts:=ts) (m6 L (ks.getD k 0)) (by omega) (fun q hq=>(h.good _ (f9.1 hq)).t) M g31 g32 ks (by omega) k (by omega);have h5:=W0 (fun A:List ab=>gu ts A (A.length:Int) M g31 g32 (0,qr ks,qL ks k)) h3;rcases h2 with⟨⟨q,hq1,hq2⟩,h2⟩|⟨h6,h2⟩
   ·refine .inl ⟨⟨_,f9.1 hq1,hrch,hq2⟩,?_⟩;generalize ks.getD k 0=x at h1 h2 h5;have h5:gu ts (oj ab.ty (bz (.int .i64) (x:Int) M)) ((oj ab.ty (bz (.int .i64) (x:Int) M)).length:Int) M g31 g32 (0,qr ks,qL ks k)=some (.inr true):=h5.trans h2;rw[ce];simp(disch:=omega)only[cj,h1,h5,rs];rfl
   ·have ih' :=ih (k+1) _ (by omega) hb' fun i hi=>by
     rw[hpre i (by omega)];by_cases hik:i=k
     ·rw[hik];exact h6
     ·exact hno i (by omega)
    have hst:xh (fun a=>cj ts M g31 g32 a.1 a.2 (fun a' =>some (.next a')) (fun e=>some (.done e)) (fun r=>some (.ret r))) (f+1+1) (qr ks,qL ks k)=xh (fun a=>cj ts M g31 g32 a.1 a.2 (fun a' =>some (.next a')) (fun e=>some (.done e)) (fun r=>some (.ret r))) (f+1) (qr (mn ks (tgt L (ks.getD k 0))),qL (mn ks (tgt L (ks.getD k 0))) (k+1)):=by
     have hl' :=hb'.len;have hle' :=hb'.le;have hq' :=qw1 (mn ks (tgt L (ks.getD k 0))) k;have h4:=jtm (ks:=mn ks (tgt L (ks.getD k 0))) (k:=k) (by omega);generalize mn ks (tgt L (ks.getD k 0))=ks' at h2 h4 hq' hle' hl';generalize ks.getD k 0=x at h1 h2 h5;have h5:gu ts (oj ab.ty (bz (.int .i64) (x:Int) M)) ((oj ab.ty (bz (.int .i64) (x:Int) M)).length:Int) M g31 g32 (0,qr ks,qL ks k)=some (.inl (qr ks',qL ks' k)):=h5.trans h2;rw[ce];simp(disch:=omega)only[cj,h1,h5,WN,h4,rs];rfl
    rw[hst];exact ih'
  ·refine .inr ⟨ks,?_,fun i=>⟨hb.rch i,hb.all hkl qyx i⟩,fun e he hr=> ?_⟩
   ·rw[ce];simp(disch:=omega)only[cj,rs];rfl
   ·obtain⟨x,hx,hxe⟩:=kq 0 (hb.all hkl qyx _ hr);exact hno x (by omega) e.2 (by rw[hxe];exact f9.2 he)
abbrev RL(L:List Eg):Nat->Nat->Prop:=Rch (fun e=>e∈L)
theorem j29{N:Nat}{ts:List ag}{L:List Eg}(h:GL N ts.length L){M:List (Int×List ab)}(hM:AM M L)(g31 g32:Int)(v51:List (Int×Bool))(x:Nat)(A:List (Nat×Nat))(hA:A.length<=100000)(hT:∀q∈A,q.2<ts.length/\q.1<N):
  (∃q∈A,0<grT ts q.2/\RL L q.1 x)/\gv ts (x:Int) v51 (A.map ct) ((A.map ct).length:Int) M g31 g32 0=some (.inr true)\/
  (∀q∈A,¬(0<grT ts q.2/\RL L q.1 x))/\gv ts (x:Int) v51 (A.map ct) ((A.map ct).length:Int) M g31 g32 0=some (.inl ()):=by
 have hlA:(A.map ct).length=A.length:=by rw[Ww]
 rw[hlA];have key:∀(f i:Nat),i+f=A.length->(∀j,j<i->¬(0<grT ts (A.getD j (0,0)).2/\RL L (A.getD j (0,0)).1 x))->
   (∃q∈A,0<grT ts q.2/\RL L q.1 x)/\xh (fun a=>bj ts (x:Int) v51 (A.map ct) (A.length:Int) M g31 g32 a (fun a' =>some (.next a')) (fun e=>some (.done e)) (fun r=>some (.ret r))) (f+1) (i:Int)=some (.inr true)\/
   (∀q∈A,¬(0<grT ts q.2/\RL L q.1 x))/\xh (fun a=>bj ts (x:Int) v51 (A.map ct) (A.length:Int) M g31 g32 a (fun a' =>some (.next a')) (fun e=>some (.done e)) (fun r=>some (.ret r))) (f+1) (i:Int)=some (.inl ()):=by
  intro f
  induction f with
  |zero=>
   intro i hi hno;refine .inr ⟨fun q hq=> ?_,?_⟩
   ·obtain⟨j,hj,rfl⟩:=kq (0,0) hq;exact hno j (by omega)
   ·rw[ce,show i=A.length by omega];simp(disch:=omega)only[bj,rs];rfl
  |succ f ih=>
   intro i hi hno;have hil:i<A.length:=by omega
   have hg:(A.map ct).getD i ab.z=ct (A.getD i (0,0)):=la _ _ _ _ _ hil;have hkl:i<(A.map ct).length:=by rw[hlA];exact hil
   have hqm:=ay (0,0) hil;have hqT:=hT _ hqm;have ih' :=ih (i+1) (by omega);have hno' :¬(0<grT ts (A.getD i (0,0)).2/\RL L (A.getD i (0,0)).1 x)->∀j,j<i+1->¬(0<grT ts (A.getD j (0,0)).2/\RL L (A.getD j (0,0)).1 x):=fun h0 j hj=>by
    by_cases hji:j=i
    ·rw[hji];exact h0
    ·exact hno j (by omega)
   obtain⟨b,hb1,hb2⟩:=jy2 h hM (A.getD i (0,0)).1 x hqT.2 g31 g32;rw[ce];generalize A.getD i (0,0)=q at hg hqT hb1 hb2 hqm hno';by_cases hgr:0<grT ts q.2
   ·cases b with
    |true=>
     refine .inl ⟨⟨_,hqm,hgr,hb2.1 rfl⟩,?_⟩;simp(disch:=omega)only[bj,hg,q62,jc0,WN,hb1,rs];rfl
    |false=>
     have hst:∀y,xh (fun a=>bj ts (x:Int) v51 (A.map ct) (A.length:Int) M g31 g32 a (fun a' =>some (.next a')) (fun e=>some (.done e)) (fun r=>some (.ret r))) (f+1) ((i+1:Nat):Int)=y->bnd (bj ts (x:Int) v51 (A.map ct) (A.length:Int) M g31 g32 (i:Int) (fun a' =>some (.next a')) (fun e=>some (.done e)) (fun r=>some (.ret r)):Option (LR Int Unit Bool)) (fun z=>lr z (xh (fun a=>bj ts (x:Int) v51 (A.map ct) (A.length:Int) M g31 g32 a (fun a' =>some (.next a')) (fun e=>some (.done e)) (fun r=>some (.ret r))) (f+1)))=y:=fun y hy=>by
      rw[<-hy];simp(disch:=omega)only[bj,hg,q62,jc0,WN,hb1,am,rs];rfl
     rcases ih' (hno' fun h0=>by have:=hb2.2 h0.2;cases this)with⟨a1,a2⟩|⟨a1,a2⟩
     ·exact .inl ⟨a1,hst _ a2⟩
     ·exact .inr ⟨a1,hst _ a2⟩
   ·have hgrf:decide ((0:Int)<(ts.getD q.2 ag.z).2.1)=false:=WD hgr;have hst:∀y,xh (fun a=>bj ts (x:Int) v51 (A.map ct) (A.length:Int) M g31 g32 a (fun a' =>some (.next a')) (fun e=>some (.done e)) (fun r=>some (.ret r))) (f+1) ((i+1:Nat):Int)=y->bnd (bj ts (x:Int) v51 (A.map ct) (A.length:Int) M g31 g32 (i:Int) (fun a' =>some (.next a')) (fun e=>some (.done e)) (fun r=>some (.ret r)):Option (LR Int Unit Bool)) (fun z=>lr z (xh (fun a=>bj ts (x:Int) v51 (A.map ct) (A.length:Int) M g31 g32 a (fun a' =>some (.next a')) (fun e=>some (.done e)) (fun r=>some (.ret r))) (f+1)))=y:=fun y hy=>by
     rw[<-hy];simp(disch:=omega)only[bj,hg,q62,jc0,WN,hgrf,am,rs];rfl
    rcases ih' (hno' fun h0=>hgr h0.1)with⟨a1,a2⟩|⟨a1,a2⟩
    ·exact .inl ⟨a1,hst _ a2⟩
    ·exact .inr ⟨a1,hst _ a2⟩
 rcases key A.length 0 (by omega) (fun j hj=>by omega)with⟨h1,h2⟩|⟨h1,h2⟩
 ·exact .inl ⟨h1,t8 h2 (bm (by omega))⟩
 ·exact .inr ⟨h1,t8 h2 (bm (by omega))⟩
theorem jlb{N:Nat}{ts:List ag}{L:List Eg}(h:GL N ts.length L){M:List (Int×List ab)}(hM:AM M L)(g31 g32:Int)(v51:List (Int×Bool)):∀l:List Nat,
  (∃e∈L,e.1∈l/\0<grT ts e.2.2/\RL L e.2.1 e.1)/\kw ts v51 M g31 g32 (qr l) ()=some (.inr true)\/
  (∀e∈L,e.1∈l->¬(0<grT ts e.2.2/\RL L e.2.1 e.1))/\kw ts v51 M g31 g32 (qr l) ()=some (.inl ())
 |[]=> .inr ⟨fun e _ he=>(by cases he),rfl⟩
 |x::l=>by
  have h2:=j29 h hM g31 g32 v51 x (m6 L x) (by have:=qys h x;omega) fun q hq=>⟨(h.good _ (f9.1 hq)).t,(h.good _ (f9.1 hq)).b⟩
  have h5:=W0 (fun A:List ab=>gv ts (x:Int) v51 A (A.length:Int) M g31 g32 0) (hM x);have ih:=jlb h hM g31 g32 v51 l;unfold kw at ih⊢;unfold qr at ih⊢;rw[Kd];simp only[qim];rcases h2 with⟨⟨q,hq1,hq2⟩,h2⟩|⟨h6,h2⟩
  ·refine .inl ⟨⟨_,f9.1 hq1,Wf,hq2⟩,?_⟩;have h5:gv ts (x:Int) v51 (oj ab.ty (bz (.int .i64) (x:Int) M)) ((oj ab.ty (bz (.int .i64) (x:Int) M)).length:Int) M g31 g32 0=some (.inr true):=h5.trans h2;simp(disch:=omega)only[ju,h5,rs]
  ·have h5:gv ts (x:Int) v51 (oj ab.ty (bz (.int .i64) (x:Int) M)) ((oj ab.ty (bz (.int .i64) (x:Int) M)).length:Int) M g31 g32 0=some (.inl ()):=h5.trans h2;rcases ih with⟨⟨e,e1,e2,e3⟩,ih⟩|⟨e1,ih⟩
   ·refine .inl ⟨⟨e,e1,We _ e2,e3⟩,?_⟩;rw[<-ih];simp(disch:=omega)only[ju,h5,rs]
   ·refine .inr ⟨fun e he hm=> ?_,?_⟩
    ·rcases Wr.1 hm with hm|hm
     ·have:=h6 e.2 (f9.2 (by rw[<-hm];exact he));rw[<-hm]at this;exact this
     ·exact e1 e he hm
    ·rw[<-ih];simp(disch:=omega)only[ju,h5,rs]
def Op(ts:List ag)(L:List Eg):Prop:=∃e∈L,RL L 0 e.1/\(opT ts e.2.2=true\/0<grT ts e.2.2/\RL L e.2.1 e.1)
theorem jok{ks:List Nat}{l:List (Int×Bool)}(h:l.Perm (qr ks)):∃l',l=qr l' /\l'.Perm ks:=by
 refine⟨l.map fun x=>x.1.toNat,?_,?_⟩
 ·unfold qr;rw[Hx]
  conv=>lhs;rw[<-List.map_id l]
  refine Hz fun x hx=> ?_
  obtain⟨k,_,rfl⟩:=WG.1 (h.mem_iff.1 hx);simp
 ·have:=h.map fun x:Int×Bool=>x.1.toNat
  unfold qr at this;rw[Hx]at this;have e:(fun x:Int×Bool=>x.1.toNat)∘(fun k:Nat=>((k:Int),true))=id:=by funext k;simp
  rw[e,List.map_id]at this;exact this
theorem j3a{N:Nat}{ts:List ag}{L:List Eg}(h:GL N ts.length L){M:List (Int×List ab)}(hM:AM M L)(hs:0<N)(g31 g32:Int):∃b,gk M g31 g32 ts=some b/\(b=true↔Op ts L):=by
 have hN:=h.n100;unfold gk;rcases j28 (ts:=ts) h hM g31 g32 N 0 [0] (by omega) (BFS.start hs) (fun i hi=>by omega)with⟨⟨e,e1,e2,e3⟩,h1⟩|⟨ks,h1,h2,h3⟩
 ·have hL:xo ts M g31 g32 (qdf (.int .i64) (0:Int) true ([]:List (Int×Bool)),[0])=some (.inr true):=t8 h1 (bm (by omega));refine⟨true,?_,⟨fun _=>⟨e,e1,e2, .inl e3⟩,fun _=>rfl⟩⟩;simp(disch:=omega)only[hL,rs]
 ·have hL:xo ts M g31 g32 (qdf (.int .i64) (0:Int) true ([]:List (Int×Bool)),[0])=some (.inl (qr ks)):=t8 h1 (bm (by omega));by_cases ho:Op ts L
  ·refine⟨true,?_,⟨fun _=>ho,fun _=>rfl⟩⟩;simp(disch:=omega)only[hL,rs];refine qyq fun l hl=> ?_
   obtain⟨l',rfl,hp⟩:=jok hl;rcases jlb h hM g31 g32 (qr ks) l' with⟨_,a2⟩|⟨a1,a2⟩
   ·exact⟨_,a2,rfl⟩
   ·exfalso;obtain⟨e,e1,e2,e3⟩:=ho;rcases e3 with e3|e3
    ·have:=h3 e e1 e2;rw[e3]at this;cases this
    ·exact a1 e e1 (hp.mem_iff.2 ((h2 _).2 e2)) e3
  ·refine⟨false,?_,⟨(fun e=>by cases e),fun e=>absurd e ho⟩⟩;simp(disch:=omega)only[hL,rs];refine qyq fun l hl=> ?_
   obtain⟨l',rfl,hp⟩:=jok hl;rcases jlb h hM g31 g32 (qr ks) l' with⟨⟨e,e1,e2,e3⟩,a2⟩|⟨a1,a2⟩
   ·exact absurd ⟨e,e1,(h2 _).1 (hp.mem_iff.1 e2), .inr e3⟩ ho
   ·exact⟨_,a2,rfl⟩
section
variable {n : bk} {m : List Int} {M : Nat} {J : Sig} {N g : Nat} {nE : List Eg} {c : Mk}
theorem GG.gl'(h:GG n m M J N g nE c):GL N n.2.1.length (gdL c nE):=by
 have h1:=h.len;refine⟨fun e he=>h.good e (Kf.1 he).1,?_,h1.2⟩;have:(gdL c nE).length<=nE.length:=Kr _ _;omega
theorem GG.r0(h:GG n m M J N g nE c):∀k j,j<k->j<N->RL nE 0 j:=by
 intro k
 induction k with
 |zero=>intro j hj;omega
 |succ k ih=>
  intro j hj hN;by_cases h0:j=0
  ·rw[h0];exact Rch.refl 0
  ·obtain⟨a,t,ha,hm⟩:=h.ok.rch j (by omega) (by rw[<-h.eN];exact hN);have he:(a,j,t)∈nE:=by rw[h.eE];exact(jb6 h.ok).2 hm
   exact(ih a (by omega) (by omega)).trans (Rch.edge (E:=fun e=>e∈nE) he)
theorem GG.step(h:GG n m M J N g nE c){e:Eg}(he:e∈nE)(hc:c e.2.1=true):c e.1=true:=(h.leads _).2 (Rch.step (E:=fun e=>e∈nE) he ((h.leads _).1 hc))
theorem GG.path(h:GG n m M J N g nE c):∀{l:List Eg} {i j:Nat},IsW (fun e=>e∈nE) i l j->c j=true->IsW (fun e=>e∈gdL c nE) i l j/\c i=true
 |[],i,j,hl,hc=>⟨hl,by rw[show i=j from hl];exact hc⟩
 |e::l,i,j,⟨h1,h2,h3⟩,hc=>by
  obtain⟨h4,h5⟩:=h.path h3 hc;have h6:=h.step h2 h5;exact⟨⟨h1,Kf.2 ⟨h2,by rw[h6,h5];rfl⟩,h4⟩,by rw[<-h1];exact h6⟩
theorem GG.cg(h:GG n m M J N g nE c):c g=true:=(h.leads g).2 (Rch.refl g)
theorem jqm{e:Eg}(he:e∈gdL c nE):e∈nE:=(Kf.1 he).1
theorem GG.rl(h:GG n m M J N g nE c){i j:Nat}(hc:c j=true):RL (gdL c nE) i j↔RL nE i j:=
 ⟨Rch.mono fun e he=>jqm he,fun⟨l,hl⟩=>⟨l,(h.path hl hc).1⟩⟩
theorem GG.lt(h:GG n m M J N g nE c){j:Nat}(hc:c j=true):j<N:=by
 obtain⟨l,hl⟩:=(h.leads j).1 hc;cases l with
 |nil=>rw[show j=g from hl];exact h.gl
 |cons e l=>
  obtain⟨h1,h2,_⟩:=hl;rw[<-h1];exact(h.good e h2).a
theorem GG.pos(h:GG n m M J N g nE c):0<N:=by have:=h.gl;omega
theorem GG.wk(h:GG n m M J N g nE c){w:Nat->Int}{i:Nat}{v:Val}:Wk (fun e=>e∈gdL c nE) w g i v↔Wk (fun e=>e∈nE) w g i v:=by
 constructor
 ·exact Wk.sub fun e he=>jqm he
 ·intro hw;obtain⟨l,h1,rfl⟩:=q6p hw;exact qyi (h.path h1 h.cg).1
theorem j0y{w:Nat->Int}:∀{l:List Eg},(∀e∈l,0<=w e.2.2)->0<=wtL w l
 |[],_=>Kc _
 |e::l,h=>by
  rw[qhz];have h1:=h e Wf;have h2:=j0y (l:=l) fun e' he' =>h e' (We _ he')
  omega
theorem j6y{w:Nat->Int}:∀{l:List Eg},(∀e∈l,w e.2.2=0)->wtL w l=0
 |[],_=>rfl
 |e::l,h=>by
  rw[qhz];have h1:=h e Wf;have h2:=j6y (l:=l) fun e' he' =>h e' (We _ he')
  omega
theorem qyh{E:Eg->Prop}:∀{l:List Eg} {i j:Nat},IsW E i l j->∀e∈l,E e/\Rch E i e.1/\Rch E e.2.1 j
 |[],_,_,_,e,he=>by cases he
 |a::l,i,j,⟨h1,h2,h3⟩,e,he=>by
  rcases Wr.1 he with rfl|he
  ·exact⟨h2,by rw[h1];exact Rch.refl i,⟨l,h3⟩⟩
  ·obtain⟨g1,g2,g3⟩:=qyh h3 e he;exact⟨g1,by rw[<-h1];exact Rch.step h2 g2,g3⟩
theorem jzg(h:GG n m M J N g nE c){w:Nat->Int}{sl:Bool}(hc:qzo (fun e=>e∈gdL c nE) w sl g):qzo (fun e=>e∈nE) w sl g:=fun i l hl ⟨l',hl'⟩=>by
 obtain⟨h1,h2⟩:=h.path hl' h.cg;exact hc i l (h.path hl h2).1 ⟨l',h1⟩
theorem jq2{L:List Eg}{w:Nat->Int}(hw:∀e∈L,0<=w e.2.2):qzo (fun e=>e∈L) w false g:=fun i l hl _=>j0y fun e he=>hw e (qyh hl e he).1
end
section
variable {n : bk} {m : List Int} {M : Nat} {J : Sig} {N g : Nat} {nE : List Eg} {c : Mk}
theorem j0x{w:Nat->Int}:∀{l:List Eg},(∀e∈l,0<=w e.2.2/\w e.2.2<=1048576)->0<=wtL w l/\wtL w l<=1048576*(l.length:Int)
 |[],_=>⟨Kc _,Kc _⟩
 |e::l,h=>by
  rw[qhz,WA];have h1:=h e Wf;have h2:=j0x (l:=l) fun e' he' =>h e' (We _ he')
  omega
theorem j12(h:GG n m M J N g nE c){ts:List ag}(hts:oy ts n.2.1.length=true){sl:Bool}(hc:qzo (fun e=>e∈gdL c nE) (wtT ts sl) sl g){d:Dst}(hs:Snd (fun e=>e∈nE) (wtT ts sl) g d)(ho:Opt (fun e=>e∈nE) (wtT ts sl) g sl d):∀i v,d i=some v->0<=v.1/\v.1<=104857600/\0<=v.2/\v.2<=100/\v.2<=(N:Int):=fun i v hv=>by
 obtain⟨l,h1,h2⟩:=q6p (hs i v hv);obtain⟨l',h3,h4,h5⟩:=qr8 (fun e he=>(h.good e he).a) (jzg h hc) l.length l i (Wg _) h1;obtain⟨v',h6,h7⟩:=ho i _ (qyi h3);rw[hv]at h6;cases h6;rw[<-h2]at h5;have h8:=q4e h5 h7;have h9:=j0x (w:=wtT ts sl) (l:=l') fun e he=>qll hts sl _ (by rw[sj hts];exact(h.good e (qyh h3 e he).1).t)
 have hN:=h.len.2;rw[<-h8];simp only[];omega
end
def qg1(w:Nat->Int)(d:Dst)(v:Val)(q:Nat×Nat):Bool:=match d q.1 with|some u=>decide (u.1+w q.2=v.1)&&decide (u.2+1=v.2)|none=>false
theorem qyf{α:Type}(l:List α)(k:Nat)(z:α)(h:k<l.length):l.drop k=l.getD k z::l.drop (k+1):=by
 rw[He h,Wa,Wi h];rfl
section
variable {n : bk} {m : List Int} {M : Nat} {J : Sig} {N g : Nat} {nE : List Eg} {c : Mk} {ts : List ag} {sl : Bool} {d : Dst}
theorem j3o(h:GG n m M J N g nE c)(i:Nat):(m6 (gdL c nE) i).Pairwise fun a b=>a.2<b.2:=by
 have h1:=h.ok.srt;rw[h.mvs,List.pairwise_map]at h1;unfold m6 gdL;rw[List.pairwise_map];have h2:=(h1.sublist (List.filter_sublist (p:=fun e=>c e.1&&c e.2.1))).sublist (List.filter_sublist (p:=fun e=>decide (e.1=i)));refine List.Pairwise.imp_of_mem (fun ha hb hab=> ?_) h2;have ha:=W8 (Kf.1 ha).2;have hb:=W8 (Kf.1 hb).2;unfold jzd at hab;simp only[qje,mvA]at hab;omega
def jx4(o:Option (Nat×Nat)):Int×Int:=match o with|some q=>((q.1:Int),(q.2:Int))|none=>(-1,0)
end
section
variable {n : bk} {m : List Int} {M : Nat} {J : Sig} {N g : Nat} {nE : List Eg} {c : Mk} {ts : List ag} {sl : Bool} {d : Dst}
theorem zfj{TT:Nat}(hts:oy ts TT=true):Wt (fun t=>lb t ts) (wtT ts false) TT:=by
 refine⟨fun t ht=> ?_,fun t ht=>qll hts false t (by rw[sj hts];exact ht)⟩;have:=sj hts;unfold lb;simp(disch:=omega)only[WN,rs];rfl
end
end Go.Proofs.YtocndcbobdnagaaGreatDoor
