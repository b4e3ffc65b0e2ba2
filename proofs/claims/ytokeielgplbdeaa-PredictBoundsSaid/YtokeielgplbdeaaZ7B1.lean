/-
  Predict: which states lead to one, by passes over the moves.
-/
import Derived.Test.YtokeielgplbdeaaZ7D5
set_option linter.all false
namespace Go.Proofs.Ytokeielgplbdeaa
open Go.K Go.M
def qq(E:Eg→Prop)(i j:Nat):Prop:=∃l,IsW E i l j
theorem qq.refl{E:Eg→Prop}(i:Nat):qq E i i:=⟨[],rfl⟩
theorem qq.trans{E:Eg→Prop}{i j k:Nat}(h:qq E i j)(h' :qq E j k):qq E i k:=by
 obtain⟨l,h⟩:=h;obtain⟨l',h'⟩:=h';exact⟨l++l',IsW.app.2 ⟨j,h,h'⟩⟩
theorem qq.edge{E:Eg→Prop}{e:Eg}(h:E e):qq E e.1 e.2.1:=⟨[e],rfl,h,rfl⟩
theorem qq.step{E:Eg→Prop}{e:Eg}{j:Nat}(h:E e)(h' :qq E e.2.1 j):qq E e.1 j:=(qq.edge h).trans h'
theorem IsW.mono{E E' :Eg→Prop}(hE:∀e,E e→E' e):∀{l:List Eg} {i j:Nat},IsW E i l j→IsW E' i l j
 |[],_,_,h=>h
 |e::l,_,_,⟨h1,h2,h3⟩=>⟨h1,hE _ h2,IsW.mono hE h3⟩
theorem qq.mono{E E' :Eg→Prop}(hE:∀e,E e→E' e){i j:Nat}(h:qq E i j):qq E' i j:=by
 obtain⟨l,h⟩:=h;exact⟨l,h.mono hE⟩
theorem jcu(l:List Eg):wtL (fun _=>0) l=0:=by
 induction l with
 |nil=>rfl
 |cons e l ih=>rw[tn,ih];rfl
theorem q2z{E:Eg→Prop}{N i j:Nat}(hE:∀e,E e→e.1<N)(h:qq E i j):∃l,IsW E i l j∧l.length≤N:=by
 obtain⟨l,h⟩:=h;obtain⟨l',h1,h2,_⟩:=qen (w:=fun _=>0) (sl:=false) hE (fun _ l _ _=>by rw[jcu];exact Int.le_refl _) l.length l i (Nat.le_refl _) h;exact⟨l',h1,h2⟩
abbrev Mk:Type:=Nat→Bool
def fl(N:Nat)(c:Mk):List Bool:=ca N c
def q42(c:Mk)(i:Nat):Mk:=fun j=>if j=i then true else c j
theorem wg(N:Nat)(c:Mk):(fl N c).length=N:=qrv _ _
theorem sr{N:Nat}{c:Mk}{i:Nat}(h:i<N):(fl N c).getD i false=c i:=qu7 h
theorem ql6(N:Nat)(c:Mk)(i:Nat):(fl N c).set i true=fl N (q42 c i):=qrw
def qc5(P:Eg→Bool)(s:Bool×Mk)(e:Eg):Bool×Mk:=bif P e&&(s.2 e.2.1&& !s.2 e.1)then(true,q42 s.2 e.1)else s
abbrev scn(P:Eg→Bool)(L:List Eg)(s:Bool×Mk):Bool×Mk:=L.foldl (qc5 P) s
section
variable {P : Eg → Bool} {g : Nat}
abbrev EP(P:Eg→Bool)(L:List Eg)(e:Eg):Prop:=e∈L∧P e=true
def Sou(E:Eg→Prop)(g:Nat)(c:Mk):Prop:=∀i,c i=true→qq E i g
def Cov(E:Eg→Prop)(g k:Nat)(c:Mk):Prop:=∀i l,IsW E i l g→l.length≤k→c i=true
def All(E:Eg→Prop)(g:Nat)(c:Mk):Prop:=∀i,qq E i g→c i=true
theorem uy(P:Eg→Bool)(s:Bool×Mk)(e:Eg):(qc5 P s e=s∧¬(P e=true∧s.2 e.2.1=true∧s.2 e.1=false))∨((P e=true∧s.2 e.2.1=true∧s.2 e.1=false)∧qc5 P s e=(true,q42 s.2 e.1)):=by
 unfold qc5;cases h1:P e<;>cases h2:s.2 e.2.1<;>cases h3:s.2 e.1<;>simp
theorem q65{c:Mk}{i j:Nat}(h:c j=true):q42 c i j=true:=by
 unfold q42;split
 ·rfl
 ·exact h
theorem q49:∀(L:List Eg) (s:Bool×Mk) (j:Nat),s.2 j=true→(scn P L s).2 j=true
 |[],s,j,h=>h
 |e::L,s,j,h=>by
  refine q49 L (qc5 P s e) j ?_;rcases uy P s e with⟨e1,_⟩|⟨_,e1⟩<;>rw[e1]
  ·exact h
  ·exact q65 h
theorem q0g{E:Eg→Prop}:∀(L:List Eg) (s:Bool×Mk),(∀e∈L,P e=true→E e)→Sou E g s.2→Sou E g (scn P L s).2
 |[],s,_,h=>h
 |e::L,s,hL,h=>by
  refine q0g L (qc5 P s e) (fun e' he' =>hL e' (List.mem_cons_of_mem _ he')) ?_;rcases uy P s e with⟨e1,_⟩|⟨⟨h1,h2,h3⟩,e1⟩<;>rw[e1]
  ·exact h
  ·intro i hi;have hi:(if i=e.1 then true else s.2 i)=true:=hi;by_cases hc:i=e.1
   ·rw[hc];exact qq.step (hL e List.mem_cons_self h1) (h _ h2)
   ·rw[if_neg hc]at hi;exact h i hi
theorem jcd:∀(L:List Eg) (s:Bool×Mk) (e:Eg),e∈L→P e=true→s.2 e.2.1=true→(scn P L s).2 e.1=true
 |[],s,e,he,_,_=>by cases he
 |e' ::L,s,e,he,hp,hv=>by
  rcases List.mem_cons.1 he with rfl|he
  ·refine q49 L (qc5 P s e) e.1 ?_;rcases uy P s e with⟨e1,hn⟩|⟨_,e1⟩<;>rw[e1]
   ·cases h3:s.2 e.1 with
    |true=>rfl
    |false=>exact absurd ⟨hp,hv,h3⟩ hn
   ·exact if_pos rfl
  ·refine jcd L (qc5 P s e') e he hp ?_;rcases uy P s e' with⟨e1,_⟩|⟨_,e1⟩<;>rw[e1]
   ·exact hv
   ·exact q65 hv
theorem q7f{E:Eg→Prop}{L:List Eg}{s:Bool×Mk}{k:Nat}(hL:∀e,E e→e∈L∧P e=true)(h:Cov E g k s.2):Cov E g (k+1) (scn P L s).2:=by
 intro i l hl hk;cases l with
 |nil=>exact q49 L s i (h i [] hl (Nat.zero_le _))
 |cons e l=>
  obtain⟨h1,h2,h3⟩:=hl;rw[←h1];obtain⟨h4,h5⟩:=hL e h2;exact jcd L s e h4 h5 (h _ l h3 (by simp at hk;omega))
theorem quu:∀(L:List Eg) (s:Bool×Mk),(scn P L s).1=false→(scn P L s)=s∧∀e∈L,¬(P e=true∧s.2 e.2.1=true∧s.2 e.1=false)
 |[],s,_=>⟨rfl,fun e he=>by cases he⟩
 |e::L,s,h=>by
  obtain⟨h1,h2⟩:=quu L (qc5 P s e) h;have hf:(qc5 P s e).1=false:=by rw[←h1];exact h
  rcases uy P s e with⟨e1,hn⟩|⟨_,e1⟩
  ·rw[e1]at h1 h2;refine⟨?_,fun e' he' => ?_⟩
   ·show scn P L (qc5 P s e)=s;rw[e1,h1]
   ·rcases List.mem_cons.1 he' with rfl|he'
    ·exact hn
    ·exact h2 e' he'
  ·rw[e1]at hf;cases hf
theorem qr9{E:Eg→Prop}{L:List Eg}{c:Mk}(hL:∀e,E e→e∈L∧P e=true)(h0:c g=true)(h:∀e∈L,¬(P e=true∧c e.2.1=true∧c e.1=false)):All E g c:=by
 rintro i ⟨l,hl⟩
 induction l generalizing i with
 |nil=>rw[show i=g from hl];exact h0
 |cons e l ih=>
  obtain⟨h1,h2,h3⟩:=hl;rw[←h1];obtain⟨h4,h5⟩:=hL e h2;cases hc:c e.1 with
  |true=>rfl
  |false=>exact absurd ⟨h5,ih _ h3,hc⟩ (h e h4)
theorem qr4{E:Eg→Prop}{c:Mk}(hs:Sou E g c)(ha:All E g c):∀(L:List Eg) (b:Bool),(∀e∈L,P e=true→E e)→scn P L (b,c)=(b,c)
 |[],b,_=>rfl
 |e::L,b,hL=>by
  have h1:qc5 P (b,c) e=(b,c):=by
   rcases uy P (b,c) e with⟨e1,_⟩|⟨⟨h1,h2,h3⟩,_⟩
   ·exact e1
   ·have:=ha e.1 (qq.step (hL e List.mem_cons_self h1) (hs _ h2));rw[show c e.1=false from h3]at this;cases this
  show scn P L (qc5 P (b,c) e)=_;rw[h1];exact qr4 hs ha L b fun e' he' =>hL e' (List.mem_cons_of_mem _ he')
theorem q55{E:Eg→Prop}{N k:Nat}{c:Mk}(hE:∀e,E e→e.1<N)(hk:N≤k)(h:Cov E g k c):All E g c:=fun i hi=>by
 obtain⟨l,h1,h2⟩:=q2z hE hi;exact h i l h1 (by omega)
end
def mk0(g:Nat):Mk:=fun j=>decide (j=g)
theorem qzf{E:Eg→Prop}{g:Nat}:Sou E g (mk0 g)∧Cov E g 0 (mk0 g):=by
 refine⟨fun i hi=> ?_,fun i l hl hk=> ?_⟩
 ·rw[show i=g from of_decide_eq_true hi];exact qq.refl g
 ·cases l with
  |nil=>exact decide_eq_true hl
  |cons e l=>simp at hk
def uq(wo:Int)(e:Eg):Bool:= !decide ((e.2.2:Int)=wo)
theorem qyh{N TT:Nat}(hN:N≤100000)(nE:List Eg)(hE:∀e∈nE,GdE N TT e)(hl:nE.length≤1000000)(wo:Int)(b0:Bool)(c:Mk)(st:List (List Int))(fu:Bool):
  qc1 wo st (nE.map cn) fu (b0,0,fl N c)=some (.inl ((scn (uq wo) nE (b0,c)).1,fl N (scn (uq wo) nE (b0,c)).2)):=by
 have hlA:(nE.map cn).length=nE.length:=by rw[List.length_map]
 have eT:scn (uq wo) nE (b0,c)=scn (uq wo) (nE.take nE.length) (b0,c):=by rw[List.take_length]
 rw[eT];refine jl (fun k:Nat=>((scn (uq wo) (nE.take k) (b0,c)).1,(k:Int),fl N (scn (uq wo) (nE.take k) (b0,c)).2)) nE.length (bv (by omega)) _ (fun k hk=> ?_) ?_ _ (by rfl)
 ·have e1:scn (uq wo) (nE.take (k+1)) (b0,c)=qc5 (uq wo) (scn (uq wo) (nE.take k) (b0,c)) (nE.getD k (0,0,0)):=by
   rw[cq nE k (0,0,0) hk];unfold scn;rw[List.foldl_append];rfl
  have hg:(nE.map cn).getD k am.z=cn (nE.getD k (0,0,0)):=iw _ _ _ _ _ hk;have hge:=hE _ (ba (0,0,0) hk);rw[e1];generalize scn (uq wo) (nE.take k) (b0,c)=s;obtain⟨b1,c1⟩:=s;generalize nE.getD k (0,0,0)=e at hg hge;obtain⟨i,to,t⟩:=e;have hi:i<N:=hge.a;have hge1:to<N:=hge.b;have hlc:=wg N c1;have h1:(fl N c1).getD to false=c1 to:=sr hge1;have h2:(fl N c1).getD i false=c1 i:=sr hi;have hs:=ql6 N c1 i;have hkl:k<(nE.map cn).length:=by rw[hlA];exact hk
  have hm0:(cn (i,to,t)).1=(i:Int):=rfl;have hm1:(cn (i,to,t)).2.1=(to:Int):=rfl;have hm2:(cn (i,to,t)).2.2.1=(t:Int):=rfl;unfold qc5 uq;simp only[];by_cases hp:(t:Int)=wo
  ·rw[decide_eq_true hp];simp(disch:=omega)only[gh,hg,hm0,hm1,hm2,Bool.not_true,Bool.false_and,al,rs]
  ·rw[decide_eq_false hp];cases hv:c1 to with
   |false=>
    rw[hv]at h1;simp(disch:=omega)only[gh,hg,hm0,hm1,hm2,hlc,h1,Bool.not_false,Bool.true_and,Bool.false_and,al,rs]
   |true=>
    rw[hv]at h1;cases hu:c1 i with
    |true=>
     rw[hu]at h2;simp(disch:=omega)only[gh,hg,hm0,hm1,hm2,hlc,h1,h2,Bool.not_false,Bool.not_true,Bool.true_and,al,rs]
    |false=>
     rw[hu]at h2;simp(disch:=omega)only[gh,hg,hm0,hm1,hm2,hlc,h1,h2,hs,Bool.not_false,Bool.true_and,al,rs]
 ·simp(disch:=omega)only[gh,hlA,rs]
theorem jdm{N TT g:Nat}(hN:N≤100000)(nE:List Eg)(hE:∀e∈nE,GdE N TT e)(hl:nE.length≤1000000)(wo:Int)(st:List (List Int))(fu:Bool):∀(f k:Nat) (c:Mk),k+f=N→Sou (EP (uq wo) nE) g c→Cov (EP (uq wo) nE) g k c→
  ∃c',k9 (fun a=>fa wo st (nE.map cn) fu a (fun a' =>some (.next a')) (fun e=>some (.done e)) (fun r=>some (.ret r))) (f+1) (fl N c)=some (.inr (fl N c'))∧Sou (EP (uq wo) nE) g c' ∧All (EP (uq wo) nE) g c' :=by
 intro f
 induction f with
 |zero=>
  intro k c hk hs ha;have ho:=q55 (N:=N) (fun e he=>(hE e he.1).a) (by omega) ha;have hp:=qr4 (P:=uq wo) hs ho nE false fun e he hp=>⟨he,hp⟩
  have h0:=qyh hN nE hE hl wo false c st fu;rw[hp]at h0;refine⟨c,?_,hs,ho⟩;rw[bj];simp(disch:=omega)only[fa,h0,Bool.not_false,rs];rfl
 |succ f ih=>
  intro k c hk hs ha;have h0:=qyh hN nE hE hl wo false c st fu;have hs' :=q0g (P:=uq wo) nE (false,c) (fun e he hp=>(⟨he,hp⟩:EP (uq wo) nE e)) hs;have ha' :=q7f (P:=uq wo) (L:=nE) (s:=(false,c)) (fun e he=>he) ha;rw[bj];cases hc:(scn (uq wo) nE (false,c)).1 with
  |false=>
   obtain⟨e2,e3⟩:=quu _ _ hc;rw[e2]at h0;refine⟨c,?_,hs,qr9 (P:=uq wo) (L:=nE) (fun e he=>he) (ha g [] rfl (Nat.zero_le _)) e3⟩;simp(disch:=omega)only[fa,h0,Bool.not_false,rs];rfl
  |true=>
   rw[hc]at h0;obtain⟨d',q1,q2⟩:=ih (k+1) _ (by omega) hs' ha';refine⟨d',?_,q2⟩;rw[←q1];simp(disch:=omega)only[fa,h0,Bool.not_true,rs];rfl
def jli(E:Eg→Prop)(g:Nat)(c:Mk):Prop:=∀i,c i=true↔qq E i g
theorem qya{N TT g:Nat}(hN:N≤100000)(hg:g<N)(nE:List Eg)(hE:∀e∈nE,GdE N TT e)(hl:nE.length≤1000000)(wo:Int)(st:List (List Int))(hst:st.length=N)(fu:Bool):
  ∃c,ir (st,nE.map cn,fu,()) (g:Int) wo=some (fl N c)∧jli (EP (uq wo) nE) g c:=by
 obtain⟨c,h1,h2,h3⟩:=jdm hN nE hE hl wo st fu N 0 (mk0 g) (by omega) qzf.1 qzf.2;refine⟨c,?_,fun i=>⟨h2 i,h3 i⟩⟩;have e0:List.replicate N (false:Bool)=fl N fun _=>false:=qh5 N _
 have e1:(List.replicate N (false:Bool)).set g true=fl N (mk0 g):=by
  rw[e0,ql6];refine qdf fun j _=> ?_
  unfold q42 mk0;by_cases h:j=g
  ·rw[if_pos h,decide_eq_true h]
  ·rw[if_neg h,decide_eq_false h]
 have hlr:(List.replicate N (false:Bool)).length=N:=List.length_replicate;have hL:pz wo st (nE.map cn) fu (fl N (mk0 g))=some (.inr (fl N c)):=jk h1 (bv (by omega));unfold ir;simp only[hst];rw[Int.toNat_natCast];simp(disch:=omega)only[hlr,e1,hL,rs]
theorem jce{P:Eg→Bool}:∀L:List Eg,scn P L (false,fun _=>false)=(false,fun _=>false)
 |[]=>rfl
 |e::L=>by
  have h1:qc5 P (false,fun _=>false) e=(false,fun _=>false):=by
   unfold qc5;simp only[Bool.false_and,Bool.and_false,cond_false]
  show scn P L (qc5 P (false,fun _=>false) e)=_;rw[h1];exact jce L
theorem q7z{N TT:Nat}(hN:N≤100000)(nE:List Eg)(hE:∀e∈nE,GdE N TT e)(hl:nE.length≤1000000)(wo:Int)(st:List (List Int))(hst:st.length=N)(fu:Bool):
  ir (st,nE.map cn,fu,()) (-1) wo=some (fl N fun _=>false):=by
 have e0:List.replicate N (false:Bool)=fl N fun _=>false:=qh5 N _
 have h0:=qyh hN nE hE hl wo false (fun _=>false) st fu;rw[jce]at h0;have h1:k9 (fun a=>fa wo st (nE.map cn) fu a (fun a' =>some (.next a')) (fun e=>some (.done e)) (fun r=>some (.ret r))) 1 (fl N fun _=>false)=some (.inr (fl N fun _=>false)):=by
  rw[bj];simp(disch:=omega)only[fa,h0,Bool.not_false,rs];rfl
 have hL:pz wo st (nE.map cn) fu (fl N fun _=>false)=some (.inr (fl N fun _=>false)):=jk h1 (bv (by omega));unfold ir;simp only[hst];rw[Int.toNat_natCast];simp(disch:=omega)only[e0,hL,rs]
end Go.Proofs.Ytokeielgplbdeaa
