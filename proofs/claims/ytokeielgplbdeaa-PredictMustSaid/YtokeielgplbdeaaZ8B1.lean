/-
  Predict: which states lead to one, by passes over the moves.
-/
import Derived.Test.YtokeielgplbdeaaZ8D5
set_option linter.all false
namespace Go.Proofs.Ytokeielgplbdeaa
open Go.K Go.M
def rn(E:Eg→Prop)(i j:Nat):Prop:=∃l,tj E i l j
theorem rn.refl{E:Eg→Prop}(i:Nat):rn E i i:=⟨[],rfl⟩
theorem rn.trans{E:Eg→Prop}{i j k:Nat}(h:rn E i j)(h' :rn E j k):rn E i k:=by
 obtain⟨l,h⟩:=h;obtain⟨l',h'⟩:=h';exact⟨l++l',tj.app.2 ⟨j,h,h'⟩⟩
theorem rn.edge{E:Eg→Prop}{e:Eg}(h:E e):rn E e.1 e.2.1:=⟨[e],rfl,h,rfl⟩
theorem rn.step{E:Eg→Prop}{e:Eg}{j:Nat}(h:E e)(h' :rn E e.2.1 j):rn E e.1 j:=(rn.edge h).trans h'
theorem tj.mono{E E' :Eg→Prop}(hE:∀e,E e→E' e):∀{l:List Eg} {i j:Nat},tj E i l j→tj E' i l j
 |[],_,_,h=>h
 |e::l,_,_,⟨h1,h2,h3⟩=>⟨h1,hE _ h2,tj.mono hE h3⟩
theorem rn.mono{E E' :Eg→Prop}(hE:∀e,E e→E' e){i j:Nat}(h:rn E i j):rn E' i j:=by
 obtain⟨l,h⟩:=h;exact⟨l,h.mono hE⟩
theorem jb6(l:List Eg):wtL (fun _=>0) l=0:=by
 induction l with
 |nil=>rfl
 |cons e l ih=>rw[rm,ih];rfl
theorem q1l{E:Eg→Prop}{N i j:Nat}(hE:∀e,E e→e.1<N)(h:rn E i j):∃l,tj E i l j∧l.length≤N:=by
 obtain⟨l,h⟩:=h;obtain⟨l',h1,h2,_⟩:=qe2 (w:=fun _=>0) (sl:=false) hE (fun _ l _ _=>by rw[jb6];exact Int.le_refl _) l.length l i (Nat.le_refl _) h;exact⟨l',h1,h2⟩
abbrev Mk:Type:=Nat→Bool
def fb(N:Nat)(c:Mk):List Bool:=bq N c
def q1f(c:Mk)(i:Nat):Mk:=fun j=>if j=i then true else c j
theorem xo(N:Nat)(c:Mk):(fb N c).length=N:=qm3 _ _
theorem tv{N:Nat}{c:Mk}{i:Nat}(h:i<N):(fb N c).getD i false=c i:=qua h
theorem qg4(N:Nat)(c:Mk)(i:Nat):(fb N c).set i true=fb N (q1f c i):=qra
def qdn(P:Eg→Bool)(s:Bool×Mk)(e:Eg):Bool×Mk:=bif P e&&(s.2 e.2.1&& !s.2 e.1)then(true,q1f s.2 e.1)else s
abbrev scn(P:Eg→Bool)(L:List Eg)(s:Bool×Mk):Bool×Mk:=L.foldl (qdn P) s
section
variable {P : Eg → Bool} {g : Nat}
abbrev EP(P:Eg→Bool)(L:List Eg)(e:Eg):Prop:=e∈L∧P e=true
def Sou(E:Eg→Prop)(g:Nat)(c:Mk):Prop:=∀i,c i=true→rn E i g
def Cov(E:Eg→Prop)(g k:Nat)(c:Mk):Prop:=∀i l,tj E i l g→l.length≤k→c i=true
def All(E:Eg→Prop)(g:Nat)(c:Mk):Prop:=∀i,rn E i g→c i=true
theorem v8(P:Eg→Bool)(s:Bool×Mk)(e:Eg):(qdn P s e=s∧¬(P e=true∧s.2 e.2.1=true∧s.2 e.1=false))∨((P e=true∧s.2 e.2.1=true∧s.2 e.1=false)∧qdn P s e=(true,q1f s.2 e.1)):=by
 unfold qdn;cases h1:P e<;>cases h2:s.2 e.2.1<;>cases h3:s.2 e.1<;>simp
theorem q5y{c:Mk}{i j:Nat}(h:c j=true):q1f c i j=true:=by
 unfold q1f;split
 ·rfl
 ·exact h
theorem q3x:∀(L:List Eg) (s:Bool×Mk) (j:Nat),s.2 j=true→(scn P L s).2 j=true
 |[],s,j,h=>h
 |e::L,s,j,h=>by
  refine q3x L (qdn P s e) j ?_;rcases v8 P s e with⟨e1,_⟩|⟨_,e1⟩<;>rw[e1]
  ·exact h
  ·exact q5y h
theorem qy9{E:Eg→Prop}:∀(L:List Eg) (s:Bool×Mk),(∀e∈L,P e=true→E e)→Sou E g s.2→Sou E g (scn P L s).2
 |[],s,_,h=>h
 |e::L,s,hL,h=>by
  refine qy9 L (qdn P s e) (fun e' he' =>hL e' (List.mem_cons_of_mem _ he')) ?_;rcases v8 P s e with⟨e1,_⟩|⟨⟨h1,h2,h3⟩,e1⟩<;>rw[e1]
  ·exact h
  ·intro i hi;have hi:(if i=e.1 then true else s.2 i)=true:=hi;by_cases hc:i=e.1
   ·rw[hc];exact rn.step (hL e List.mem_cons_self h1) (h _ h2)
   ·rw[if_neg hc]at hi;exact h i hi
theorem jbq:∀(L:List Eg) (s:Bool×Mk) (e:Eg),e∈L→P e=true→s.2 e.2.1=true→(scn P L s).2 e.1=true
 |[],s,e,he,_,_=>by cases he
 |e' ::L,s,e,he,hp,hv=>by
  rcases List.mem_cons.1 he with rfl|he
  ·refine q3x L (qdn P s e) e.1 ?_;rcases v8 P s e with⟨e1,hn⟩|⟨_,e1⟩<;>rw[e1]
   ·cases h3:s.2 e.1 with
    |true=>rfl
    |false=>exact absurd ⟨hp,hv,h3⟩ hn
   ·exact if_pos rfl
  ·refine jbq L (qdn P s e') e he hp ?_;rcases v8 P s e' with⟨e1,_⟩|⟨_,e1⟩<;>rw[e1]
   ·exact hv
   ·exact q5y hv
theorem q6b{E:Eg→Prop}{L:List Eg}{s:Bool×Mk}{k:Nat}(hL:∀e,E e→e∈L∧P e=true)(h:Cov E g k s.2):Cov E g (k+1) (scn P L s).2:=by
 intro i l hl hk;cases l with
 |nil=>exact q3x L s i (h i [] hl (Nat.zero_le _))
 |cons e l=>
  obtain⟨h1,h2,h3⟩:=hl;rw[←h1];obtain⟨h4,h5⟩:=hL e h2;exact jbq L s e h4 h5 (h _ l h3 (by simp at hk;omega))
theorem qtx:∀(L:List Eg) (s:Bool×Mk),(scn P L s).1=false→(scn P L s)=s∧∀e∈L,¬(P e=true∧s.2 e.2.1=true∧s.2 e.1=false)
 |[],s,_=>⟨rfl,fun e he=>by cases he⟩
 |e::L,s,h=>by
  obtain⟨h1,h2⟩:=qtx L (qdn P s e) h;have hf:(qdn P s e).1=false:=by rw[←h1];exact h
  rcases v8 P s e with⟨e1,hn⟩|⟨_,e1⟩
  ·rw[e1]at h1 h2;refine⟨?_,fun e' he' => ?_⟩
   ·show scn P L (qdn P s e)=s;rw[e1,h1]
   ·rcases List.mem_cons.1 he' with rfl|he'
    ·exact hn
    ·exact h2 e' he'
  ·rw[e1]at hf;cases hf
theorem qro{E:Eg→Prop}{L:List Eg}{c:Mk}(hL:∀e,E e→e∈L∧P e=true)(h0:c g=true)(h:∀e∈L,¬(P e=true∧c e.2.1=true∧c e.1=false)):All E g c:=by
 rintro i ⟨l,hl⟩
 induction l generalizing i with
 |nil=>rw[show i=g from hl];exact h0
 |cons e l ih=>
  obtain⟨h1,h2,h3⟩:=hl;rw[←h1];obtain⟨h4,h5⟩:=hL e h2;cases hc:c e.1 with
  |true=>rfl
  |false=>exact absurd ⟨h5,ih _ h3,hc⟩ (h e h4)
theorem qrj{E:Eg→Prop}{c:Mk}(hs:Sou E g c)(ha:All E g c):∀(L:List Eg) (b:Bool),(∀e∈L,P e=true→E e)→scn P L (b,c)=(b,c)
 |[],b,_=>rfl
 |e::L,b,hL=>by
  have h1:qdn P (b,c) e=(b,c):=by
   rcases v8 P (b,c) e with⟨e1,_⟩|⟨⟨h1,h2,h3⟩,_⟩
   ·exact e1
   ·have:=ha e.1 (rn.step (hL e List.mem_cons_self h1) (hs _ h2));rw[show c e.1=false from h3]at this;cases this
  show scn P L (qdn P (b,c) e)=_;rw[h1];exact qrj hs ha L b fun e' he' =>hL e' (List.mem_cons_of_mem _ he')
theorem q4w{E:Eg→Prop}{N k:Nat}{c:Mk}(hE:∀e,E e→e.1<N)(hk:N≤k)(h:Cov E g k c):All E g c:=fun i hi=>by
 obtain⟨l,h1,h2⟩:=q1l hE hi;exact h i l h1 (by omega)
end
def mk0(g:Nat):Mk:=fun j=>decide (j=g)
theorem qnw{E:Eg→Prop}{g:Nat}:Sou E g (mk0 g)∧Cov E g 0 (mk0 g):=by
 refine⟨fun i hi=> ?_,fun i l hl hk=> ?_⟩
 ·rw[show i=g from of_decide_eq_true hi];exact rn.refl g
 ·cases l with
  |nil=>exact decide_eq_true hl
  |cons e l=>simp at hk
def vq(wo:Int)(e:Eg):Bool:= !decide ((e.2.2:Int)=wo)
theorem qxe{N TT:Nat}(hN:N≤100000)(nE:List Eg)(hE:∀e∈nE,GdE N TT e)(hl:nE.length≤1000000)(wo:Int)(b0:Bool)(c:Mk)(st:List (List Int))(fu:Bool):
  qdk wo st (nE.map cn) fu (b0,0,fb N c)=some (.inl ((scn (vq wo) nE (b0,c)).1,fb N (scn (vq wo) nE (b0,c)).2)):=by
 have hlA:(nE.map cn).length=nE.length:=by rw[List.length_map]
 have eT:scn (vq wo) nE (b0,c)=scn (vq wo) (nE.take nE.length) (b0,c):=by rw[List.take_length]
 rw[eT];refine jy (fun k:Nat=>((scn (vq wo) (nE.take k) (b0,c)).1,(k:Int),fb N (scn (vq wo) (nE.take k) (b0,c)).2)) nE.length (bm (by omega)) _ (fun k hk=> ?_) ?_ _ (by rfl)
 ·have e1:scn (vq wo) (nE.take (k+1)) (b0,c)=qdn (vq wo) (scn (vq wo) (nE.take k) (b0,c)) (nE.getD k (0,0,0)):=by
   rw[cr nE k (0,0,0) hk];unfold scn;rw[List.foldl_append];rfl
  have hg:(nE.map cn).getD k aq.z=cn (nE.getD k (0,0,0)):=i9 _ _ _ _ _ hk;have hge:=hE _ (aw (0,0,0) hk);rw[e1];generalize scn (vq wo) (nE.take k) (b0,c)=s;obtain⟨b1,c1⟩:=s;generalize nE.getD k (0,0,0)=e at hg hge;obtain⟨i,to,t⟩:=e;have hi:i<N:=hge.a;have hge1:to<N:=hge.b;have hlc:=xo N c1;have h1:(fb N c1).getD to false=c1 to:=tv hge1;have h2:(fb N c1).getD i false=c1 i:=tv hi;have hs:=qg4 N c1 i;have hkl:k<(nE.map cn).length:=by rw[hlA];exact hk
  have hm0:(cn (i,to,t)).1=(i:Int):=rfl;have hm1:(cn (i,to,t)).2.1=(to:Int):=rfl;have hm2:(cn (i,to,t)).2.2.1=(t:Int):=rfl;unfold qdn vq;simp only[];by_cases hp:(t:Int)=wo
  ·rw[decide_eq_true hp];simp(disch:=omega)only[jg,hg,hm0,hm1,hm2,Bool.not_true,Bool.false_and,al,rs]
  ·rw[decide_eq_false hp];cases hv:c1 to with
   |false=>
    rw[hv]at h1;simp(disch:=omega)only[jg,hg,hm0,hm1,hm2,hlc,h1,Bool.not_false,Bool.true_and,Bool.false_and,al,rs]
   |true=>
    rw[hv]at h1;cases hu:c1 i with
    |true=>
     rw[hu]at h2;simp(disch:=omega)only[jg,hg,hm0,hm1,hm2,hlc,h1,h2,Bool.not_false,Bool.not_true,Bool.true_and,al,rs]
    |false=>
     rw[hu]at h2;simp(disch:=omega)only[jg,hg,hm0,hm1,hm2,hlc,h1,h2,hs,Bool.not_false,Bool.true_and,al,rs]
 ·simp(disch:=omega)only[jg,hlA,rs]
theorem jcv{N TT g:Nat}(hN:N≤100000)(nE:List Eg)(hE:∀e∈nE,GdE N TT e)(hl:nE.length≤1000000)(wo:Int)(st:List (List Int))(fu:Bool):∀(f k:Nat) (c:Mk),k+f=N→Sou (EP (vq wo) nE) g c→Cov (EP (vq wo) nE) g k c→
  ∃c',la (fun a=>gp wo st (nE.map cn) fu a (fun a' =>some (.next a')) (fun e=>some (.done e)) (fun r=>some (.ret r))) (f+1) (fb N c)=some (.inr (fb N c'))∧Sou (EP (vq wo) nE) g c' ∧All (EP (vq wo) nE) g c' :=by
 intro f
 induction f with
 |zero=>
  intro k c hk hs ha;have ho:=q4w (N:=N) (fun e he=>(hE e he.1).a) (by omega) ha;have hp:=qrj (P:=vq wo) hs ho nE false fun e he hp=>⟨he,hp⟩
  have h0:=qxe hN nE hE hl wo false c st fu;rw[hp]at h0;refine⟨c,?_,hs,ho⟩;rw[a8];simp(disch:=omega)only[gp,h0,Bool.not_false,rs];rfl
 |succ f ih=>
  intro k c hk hs ha;have h0:=qxe hN nE hE hl wo false c st fu;have hs' :=qy9 (P:=vq wo) nE (false,c) (fun e he hp=>(⟨he,hp⟩:EP (vq wo) nE e)) hs;have ha' :=q6b (P:=vq wo) (L:=nE) (s:=(false,c)) (fun e he=>he) ha;rw[a8];cases hc:(scn (vq wo) nE (false,c)).1 with
  |false=>
   obtain⟨e2,e3⟩:=qtx _ _ hc;rw[e2]at h0;refine⟨c,?_,hs,qro (P:=vq wo) (L:=nE) (fun e he=>he) (ha g [] rfl (Nat.zero_le _)) e3⟩;simp(disch:=omega)only[gp,h0,Bool.not_false,rs];rfl
  |true=>
   rw[hc]at h0;obtain⟨d',q1,q2⟩:=ih (k+1) _ (by omega) hs' ha';refine⟨d',?_,q2⟩;rw[←q1];simp(disch:=omega)only[gp,h0,Bool.not_true,rs];rfl
def jkw(E:Eg→Prop)(g:Nat)(c:Mk):Prop:=∀i,c i=true↔rn E i g
theorem qw6{N TT g:Nat}(hN:N≤100000)(hg:g<N)(nE:List Eg)(hE:∀e∈nE,GdE N TT e)(hl:nE.length≤1000000)(wo:Int)(st:List (List Int))(hst:st.length=N)(fu:Bool):
  ∃c,km (st,nE.map cn,fu,()) (g:Int) wo=some (fb N c)∧jkw (EP (vq wo) nE) g c:=by
 obtain⟨c,h1,h2,h3⟩:=jcv hN nE hE hl wo st fu N 0 (mk0 g) (by omega) qnw.1 qnw.2;refine⟨c,?_,fun i=>⟨h2 i,h3 i⟩⟩;have e0:List.replicate N (false:Bool)=fb N fun _=>false:=qe6 N _
 have e1:(List.replicate N (false:Bool)).set g true=fb N (mk0 g):=by
  rw[e0,qg4];refine zf fun j _=> ?_
  unfold q1f mk0;by_cases h:j=g
  ·rw[if_pos h,decide_eq_true h]
  ·rw[if_neg h,decide_eq_false h]
 have hlr:(List.replicate N (false:Bool)).length=N:=List.length_replicate;have hL:p8 wo st (nE.map cn) fu (fb N (mk0 g))=some (.inr (fb N c)):=ib h1 (bm (by omega));unfold km;simp only[hst];rw[Int.toNat_natCast];simp(disch:=omega)only[hlr,e1,hL,rs]
theorem jbr{P:Eg→Bool}:∀L:List Eg,scn P L (false,fun _=>false)=(false,fun _=>false)
 |[]=>rfl
 |e::L=>by
  have h1:qdn P (false,fun _=>false) e=(false,fun _=>false):=by
   unfold qdn;simp only[Bool.false_and,Bool.and_false,cond_false]
  show scn P L (qdn P (false,fun _=>false) e)=_;rw[h1];exact jbr L
theorem q6z{N TT:Nat}(hN:N≤100000)(nE:List Eg)(hE:∀e∈nE,GdE N TT e)(hl:nE.length≤1000000)(wo:Int)(st:List (List Int))(hst:st.length=N)(fu:Bool):
  km (st,nE.map cn,fu,()) (-1) wo=some (fb N fun _=>false):=by
 have e0:List.replicate N (false:Bool)=fb N fun _=>false:=qe6 N _
 have h0:=qxe hN nE hE hl wo false (fun _=>false) st fu;rw[jbr]at h0;have h1:la (fun a=>gp wo st (nE.map cn) fu a (fun a' =>some (.next a')) (fun e=>some (.done e)) (fun r=>some (.ret r))) 1 (fb N fun _=>false)=some (.inr (fb N fun _=>false)):=by
  rw[a8];simp(disch:=omega)only[gp,h0,Bool.not_false,rs];rfl
 have hL:p8 wo st (nE.map cn) fu (fb N fun _=>false)=some (.inr (fb N fun _=>false)):=ib h1 (bm (by omega));unfold km;simp only[hst];rw[Int.toNat_natCast];simp(disch:=omega)only[e0,hL,rs]
end Go.Proofs.Ytokeielgplbdeaa
