/-
  Freechoice: which states lead to some.
-/
import Derived.Test.YtclbndfjhjladaaGreatZ5PE3
set_option linter.all false
namespace Go.Proofs.YtclbndfjhjladaaGreat
open Go.K Go.M
def cT(g:List Bool):Nat→Nat
 |0=>0
 |k+1=>cT g k+if g.getD k false=true then 1 else 0
theorem juw(g:List Bool):∀k,cT g k≤k
 |0=>Nat.le_refl _
 |k+1=>by
  have:=juw g k;unfold cT;split<;>omega
theorem q3u{g g' :List Bool}(h:∀i,g.getD i false=true→g'.getD i false=true):∀k,cT g k≤cT g' k
 |0=>Nat.le_refl _
 |k+1=>by
  have h1:=q3u h k;unfold cT;by_cases c:g.getD k false=true
  ·rw[if_pos c,if_pos (h k c)];omega
  ·rw[if_neg c];omega
theorem jux{g g' :List Bool}(h:∀i,g.getD i false=true→g'.getD i false=true){i:Nat}(h1:¬g.getD i false=true)(h2:g'.getD i false=true):∀{k},i<k→cT g k<cT g' k
 |0,hk=>by omega
 |k+1,hk=>by
  unfold cT;by_cases e:i=k
  ·subst e;have:=q3u h i;rw[if_neg h1,if_pos h2];omega
  ·have h3:=jux h h1 h2 (k:=k) (by omega);by_cases c:g.getD k false=true
   ·rw[if_pos c,if_pos (h k c)];omega
   ·rw[if_neg c];omega
theorem jji{g:List Bool}:∀{k:Nat},k≤cT g k→∀i,i<k→g.getD i false=true
 |0,_,i,hi=>by omega
 |k+1,h,i,hi=>by
  have h0:=juw g k;unfold cT at h;by_cases c:g.getD k false=true
  ·rw[if_pos c]at h;by_cases e:i=k
   ·rw[e];exact c
   ·exact jji (k:=k) (by omega) i (by omega)
  ·rw[if_neg c]at h;omega
theorem q9m{l:List Bool}{s:Nat}{v:Bool}(hs:s<l.length)(j:Nat):(l.set s v).getD j false=if j=s then v else l.getD j false:=by
 rw[List.getD_eq_getElem?_getD,List.getElem?_set];by_cases e:s=j
 ·rw[if_pos e,if_pos e.symm,if_pos hs];rfl
 ·rw[if_neg e,if_neg fun h=>e h.symm,List.getD_eq_getElem?_getD]
inductive Way (mv : List ar) : Nat → Nat → Prop
 | refl (a : Nat) : Way mv a a
 | step {a b c : Nat} (t : Nat) (h : mvA a b t ∈ mv) (hw : Way mv b c) : Way mv a c
def jx3(L:Nat)(mv:List ar):Prop:=∀x∈mv,∃a b t:Nat,x=mvA a b t∧a<L∧b<L
def Clo(mv:List ar)(g:List Bool):Prop:=∀a b t:Nat,mvA a b t∈mv→g.getD b false=true→g.getD a false=true
def Snd(mv:List ar)(goal g:List Bool):Prop:=∀i,g.getD i false=true→∃j,Way mv i j∧goal.getD j false=true
def Ge(g g' :List Bool):Prop:=∀i,g.getD i false=true→g'.getD i false=true
theorem Way.trans{mv:List ar}{a b c:Nat}(h:Way mv a b)(h2:Way mv b c):Way mv a c:=by
 induction h with
 |refl=>exact h2
 |step t hx _ ih=>exact .step t hx (ih h2)
theorem Clo.way{mv:List ar}{g:List Bool}(h:Clo mv g){i j:Nat}(hw:Way mv i j)(hj:g.getD j false=true):g.getD i false=true:=by
 induction hw with
 |refl=>exact hj
 |step t hx _ ih=>exact h _ _ t hx (ih hj)
theorem jtx{L:Nat}{mv:List ar}(hm:jx3 L mv)(hml:mv.length≤100000)(hL:L≤1000)(v12 v13:Int)(s0:List (List Int))(s1:List ar)(s2:Bool){g:List Bool}(hg:g.length=L):
  ∃g',qnd v12 v13 mv (mv.length:Int) s0 s1 s2 (0,g)=some (.inl g')∧g'.length=L∧Ge g g' ∧Snd mv g g' ∧(Clo mv g' ∨cT g L<cT g' L):=by
 obtain⟨o,ho,g',rfl,h1,h2,h3,h4⟩:=wg (step:=fun a:Int×List Bool=>uq (R:=LR (Int×List Bool) (List Bool) (List Bool)) v12 v13 mv (mv.length:Int) s0 s1 s2 a.1 a.2 (fun a' =>some (.next a')) (fun e=>some (.done e)) (fun r=>some (.ret r)))
  (fun x=>∃i:Nat,x.1=(i:Int)∧i≤mv.length∧x.2.length=L∧Ge g x.2∧Snd mv g x.2∧((∀j,j<i→∀a b t:Nat,mv.getD j ar.z=mvA a b t→x.2.getD b false=true→x.2.getD a false=true)∨cT g L<cT x.2 L)) (fun a=>mv.length-a.1.toNat)
  (fun o=>∃g',o= .inl g' ∧g'.length=L∧Ge g g' ∧Snd mv g g' ∧(Clo mv g' ∨cT g L<cT g' L)) (0,g) ⟨0,rfl,Nat.zero_le _,hg,fun _ h=>h,fun i hi=>⟨i, .refl i,hi⟩, .inl fun j hj=>by omega⟩ (by show mv.length-(0:Int).toNat<many;have:=bc (n:=mv.length) (by omega);omega) (by
   rintro⟨x,y⟩ ⟨i,rfl,hi,hy,hge,hsn,hcl⟩;dsimp only at hy hge hsn hcl;unfold uq;dsimp only;by_cases hlt:i<mv.length
   ·obtain⟨a,b,t,e,ha,hb⟩:=hm _ (au ar.z hlt);have e1:(mv.getD i ar.z).1=(a:Int):=by rw[e];rfl
    have e2:(mv.getD i ar.z).2.1=(b:Int):=by rw[e];rfl
    have e3:(mv.getD i ar.z).1.toNat=a:=by omega
    have e4:(mv.getD i ar.z).2.1.toNat=b:=by omega
    have fin:∀v:Bool,(v=true→y.getD a false=true∨y.getD b false=true)→(y.getD a false=true→v=true)→(y.getD b false=true→v=true)→∃x,ao (c8 .i64 ((i:Int)+1)) (some (LR.next ((i:Int)+1,y.set a v)):Option (LR (Int×List Bool) (List Bool) (List Bool)))=some x∧
      jgq (fun x:Int×List Bool=>∃i:Nat,x.1=(i:Int)∧i≤mv.length∧x.2.length=L∧Ge g x.2∧Snd mv g x.2∧((∀j,j<i→∀a b t:Nat,mv.getD j ar.z=mvA a b t→x.2.getD b false=true→x.2.getD a false=true)∨cT g L<cT x.2 L)) (fun a=>mv.length-a.1.toNat)
       (fun o:List Bool⊕List Bool=>∃g',o= .inl g' ∧g'.length=L∧Ge g g' ∧Snd mv g g' ∧(Clo mv g' ∨cT g L<cT g' L)) (mv.length-(i:Int).toNat) x:=fun v v1 v2 v3=>by
     rw[qcu (by omega) (by omega),ah];have hat:=fun j=>q9m (l:=y) (s:=a) (v:=v) (by omega) j
     have hup:Ge y (y.set a v):=fun j hj=>by
      rw[hat];by_cases c:j=a
      ·rw[if_pos c];exact v2 (by rw[←c];exact hj)
      ·rw[if_neg c];exact hj
     refine⟨_,rfl,⟨i+1,rfl,by omega,by show(y.set a v).length=L;rw[List.length_set];exact hy,fun j hj=>hup j (hge j hj),fun j hj=> ?_,?_⟩,?_⟩
     ·have hj:(y.set a v).getD j false=true:=hj;rw[hat]at hj;by_cases c:j=a
      ·rw[if_pos c]at hj;rw[c];rcases v1 hj with h|h
       ·exact hsn a h
       ·obtain⟨k,hw,hk⟩:=hsn b h;exact⟨k, .step t (by rw[←e];exact au ar.z hlt) hw,hk⟩
      ·rw[if_neg c]at hj;exact hsn j hj
     ·by_cases hch:y.getD a false=v
      ·have hsame:∀j,(y.set a v).getD j false=y.getD j false:=fun j=>by
        rw[hat];by_cases c:j=a
        ·rw[if_pos c,c,hch]
        ·rw[if_neg c]
       rcases hcl with hcl|hcl
       ·refine .inl fun j hj a' b' t' he hb' => ?_
        have hb' :(y.set a v).getD b' false=true:=hb';show(y.set a v).getD a' false=true;rw[hsame]at hb' ⊢;by_cases c:j=i
        ·rw[c,e]at he;have h1:(a:Int)=a' :=congrArg (fun x:ar=>x.1) he;have h2:(b:Int)=b' :=congrArg (fun x:ar=>x.2.1) he;have h1:a' =a:=by omega
         have h2:b' =b:=by omega
         rw[h1,hch];exact v3 (by rw[←h2];exact hb')
        ·exact hcl j (by omega) a' b' t' he hb'
       ·exact .inr (Nat.lt_of_lt_of_le hcl (q3u hup L))
      ·refine .inr ?_;have h1:¬y.getD a false=true:=fun h=>hch (by rw[h,v2 h])
       have h2:(y.set a v).getD a false=true:=by
        rw[hat,if_pos rfl];cases v with
        |true=>rfl
        |false=>exact absurd (by revert h1;cases y.getD a false<;>simp) hch
       exact Nat.lt_of_le_of_lt (q3u hge L) (jux hup h1 h2 ha)
     ·show mv.length-((i+1:Nat):Int).toNat<mv.length-(i:Int).toNat;omega
    rw[ve (by omega),cu (by omega) (by omega),cu (by omega) (by omega)];simp only[Int.toNat_natCast];rw[cu (by omega) (by omega),cu (by omega) (by omega),e3,e4];cases ca:y.getD a false with
    |true=>
     rw[cond_true,cu (by omega) (by omega),cu (by omega) (by omega)];exact fin true (fun _=> .inl ca) (fun _=>rfl) (fun _=>rfl)
    |false=>
     rw[cond_false,cu (by omega) (by omega),cu (by omega) (by omega),cu (by omega) (by omega),cu (by omega) (by omega)];exact fin _ (fun h=> .inr h) (fun h=>by rw[ca]at h;cases h) (fun h=>h)
   ·rw[wq (by omega)];refine⟨_,rfl,y,rfl,hy,hge,hsn,hcl.imp (fun h a b t hx=> ?_) id⟩;obtain⟨j,hj,he⟩:=t8 ar.z hx;exact h j (by omega) a b t he)
 exact⟨g',ho,h1,h2,h3,h4⟩
theorem jie{st:List (List Int)}{mv:List ar}(fl:Bool)(hm:jx3 st.length mv)(hml:mv.length≤100000)(hL:st.length≤1000){goal:List Bool}(hg:goal.length=st.length):
  ∃g,we (st,mv,fl,()) goal=some g∧g.length=st.length∧∀i,i<st.length→(g.getD i false=true↔∃j,Way mv i j∧goal.getD j false=true):=by
 obtain⟨o,ho,g,rfl,h1,h2,h3,h4⟩:=wg (step:=fun a:Int×List Bool=>ur (R:=LR (Int×List Bool) (List Bool) (List Bool)) (st.length:Int) st mv fl a.1 a.2 (fun a' =>some (.next a')) (fun e=>some (.done e)) (fun r=>some (.ret r)))
  (fun x=>∃i:Nat,x.1=(i:Int)∧i≤st.length∧x.2.length=st.length∧Ge goal x.2∧Snd mv goal x.2∧(Clo mv x.2∨i≤cT x.2 st.length)) (fun a=>st.length-a.1.toNat)
  (fun o=>∃g,o= .inl g∧g.length=st.length∧Ge goal g∧Snd mv goal g∧Clo mv g) (0,goal) ⟨0,rfl,Nat.zero_le _,hg,fun _ h=>h,fun i hi=>⟨i, .refl i,hi⟩, .inr (Nat.zero_le _)⟩ (by show st.length-(0:Int).toNat<many;have:=bc (n:=st.length) (by omega);omega) (by
   rintro⟨x,y⟩ ⟨i,rfl,hi,hy,hge,hsn,hcl⟩;dsimp only at hy hge hsn hcl;unfold ur;dsimp only;by_cases hlt:i<st.length
   ·obtain⟨g',e1,e2,e3,e4,e5⟩:=jtx hm hml hL (st.length:Int) (i:Int) st mv fl hy;rw[ve (by omega),e1,ax,lj,qcu (by omega) (by omega),ah];refine⟨_,rfl,⟨i+1,rfl,by omega,e2,fun j hj=>e3 j (hge j hj),fun j hj=> ?_,?_⟩,?_⟩
    ·obtain⟨k,hw,hk⟩:=e4 j hj;obtain⟨k2,hw2,hk2⟩:=hsn k hk;exact⟨k2,hw.trans hw2,hk2⟩
    ·rcases e5 with h|h
     ·exact .inl h
     ·rcases hcl with hc|hc
      ·refine .inl fun a b t hx hb=> ?_
       obtain⟨k,hw,hk⟩:=e4 b hb;exact e3 a (hc a b t hx (hc.way hw hk))
      ·exact .inr (by show i+1≤cT g' st.length;omega)
    ·show st.length-((i+1:Nat):Int).toNat<st.length-(i:Int).toNat;omega
   ·rw[wq (by omega)];refine⟨_,rfl,y,rfl,hy,hge,hsn,?_⟩;rcases hcl with h|h
    ·exact h
    ·intro a b t hx _;obtain⟨a',b',t',e,ha,_⟩:=hm _ hx;have h1:(a:Int)=a' :=congrArg (fun x:ar=>x.1) e;exact jji (k:=st.length) (by omega) a (by omega))
 have hc:gz goal=some goal:=by
  unfold gz jg;rw[q4o (by omega) (by omega)];rfl
 have ho:qne (st.length:Int) st mv fl (0,goal)=_:=ho;unfold we;rw[hc,ax];dsimp only;rw[ho,ax];exact⟨g,rfl,h1,fun i _=>⟨h3 i,fun⟨j,hw,hj⟩=>h4.way hw (h2 j hj)⟩⟩
end Go.Proofs.YtclbndfjhjladaaGreat
