/-
  Predict: what is left, by completions.
-/
import Derived.Test.YtokeielgplbdeaaZ4P1
set_option linter.all false
namespace Go.Proofs.Ytokeielgplbdeaa
open Go.K Go.M
def Fs(n:c8):List Int→List Nat→List Int→Prop
 |x,[],y=>x=y
 |x,t::ks,y=>t<n.2.1.length∧jl (wh n t) x=true∧Fs n (ce (wh n t) x) ks y
theorem Fs.app{n:c8}{z:List Int}:∀{ks ks' :List Nat} {x y:List Int},Fs n x ks y→Fs n y ks' z→Fs n x (ks++ks') z
 |[],ks',x,y,h,h' =>by rw[show x=y from h];exact h'
 |t::ks,ks',x,y,⟨h1,h2,h3⟩,h' =>⟨h1,h2,Fs.app h3 h'⟩
abbrev Cmp(n:c8)(x:List Int)(ks:List Nat):Prop:=Fs n x ks (qgo n.1 n.2.2.2.1)
abbrev edK(ks:List Nat):List Eg:=ks.map fun t=>(0,0,t)
abbrev qns(ts:List af)(sl:Bool)(ks:List Nat):Int:=tz (gg ts sl) (edK ks)
theorem qnt(ts:List af)(sl:Bool)(t:Nat)(ks:List Nat):qns ts sl (t::ks)=gg ts sl t+qns ts sl ks:=rfl
abbrev qnu(l:List Eg):List Nat:=l.map fun e=>e.2.2
theorem xo(ts:List af)(sl:Bool):∀l:List Eg,qns ts sl (qnu l)=tz (gg ts sl) l
 |[]=>rfl
 |e::l=>by
  show gg ts sl e.2.2+qns ts sl (qnu l)=_;rw[xo ts sl l];rfl
structure Sp (n : c8) (ts : List af) (x : List Int) (B : af) (mu : List Int) : Prop where
 lo : ∀ ks, Cmp n x ks → B.1 ≤ qns ts false ks
 loA : ∃ ks, Cmp n x ks ∧ B.1 = qns ts false ks
 cls : B.2.2.1 = false → ∀ ks, Cmp n x ks → qns ts true ks ≤ B.2.1 ∧ ∀ t ∈ ks, opT ts t = false
 clsA : B.2.2.1 = false → ∃ ks, Cmp n x ks ∧ B.2.1 = qns ts true ks
 opn : B.2.2.1 = true → (∃ ks, Cmp n x ks ∧ ∃ t ∈ ks, opT ts t = true) ∨ ∀ K : Int, ∃ ks, Cmp n x ks ∧ K ≤ qns ts true ks
 must : ∀ k : Int, k ∈ mu ↔ ∃ t : Nat, k = (t : Int) ∧ t < n.2.1.length ∧ ∀ ks, Cmp n x ks → t ∈ ks
 bd : 0 ≤ B.1 ∧ B.1 ≤ 104857600 ∧ (B.2.2.1 = false → 0 ≤ B.2.1 ∧ B.2.1 ≤ 104857600)
section
variable {n : c8} {m : List Int} {M : Nat} {σ : ox} {N g : Nat} {nE : List Eg} {c : Mk}
theorem GG.toFs(h:GG n m M σ N g nE c):∀{l:List Eg} {i j:Nat},sw (fun e=>e∈nE) i l j→Fs n (bu σ i) (qnu l) (bu σ j)
 |[],i,j,hw=>by rw[show i=j from hw];rfl
 |e::l,i,j,⟨h1,h2,h3⟩=>by
  obtain⟨g1,g2⟩:=h.edge h2;refine⟨(h.good e h2).t,by rw[←h1];exact g1,?_⟩;rw[←h1,g2];exact h.toFs h3
theorem GG.ofFs(h:GG n m M σ N g nE c):∀{ks:List Nat} {i:Nat} {y:List Int},i<N→Fs n (bu σ i) ks y→∃l j,sw (fun e=>e∈nE) i l j∧qnu l=ks∧bu σ j=y∧j<N
 |[],i,y,hi,hf=>⟨[],i,rfl,rfl,hf,hi⟩
 |t::ks,i,y,hi,⟨h1,h2,h3⟩=>by
  obtain⟨b,hb⟩:=h.ok.full h.full i t (by rw[←h.eN];exact hi) h1 h2;have he:(i,b,t)∈nE:=by rw[h.eE];exact(qvc h.ok).2 hb
  have h4:=(h.edge he).2;rw[show ce (wh n t) (bu σ i)=bu σ b from h4]at h3;obtain⟨l,j,g1,g2,g3,g4⟩:=h.ofFs (h.good _ he).b h3;exact⟨(i,b,t)::l,j,⟨rfl,he,g1⟩,by rw[←g2];rfl,g3,g4⟩
theorem q7w{α:Type}{l:List α}(h:l.Nodup)(z:α){i j:Nat}(hi:i<l.length)(hj:j<l.length)(e:l.getD i z=l.getD j z):i=j:=by
 rw[ky l i z hi,ky l j z hj]at e;exact(List.getElem_inj h).1 e
theorem GG.ofCmp(h:GG n m M σ N g nE c){i:Nat}(hi:i<N){ks:List Nat}(hc:Cmp n (bu σ i) ks):∃l,sw (fun e=>e∈nE) i l g∧qnu l=ks:=by
 obtain⟨l,j,h1,h2,h3,h4⟩:=h.ofFs hi hc;have:j=g:=q7w h.ok.sp.nd [] (by rw[←h.eN];exact h4) (by rw[←h.eN];exact h.gl) (h3.trans h.fin.symm);rw[this]at h1;exact⟨l,h1,h2⟩
theorem GG.toCmp(h:GG n m M σ N g nE c){i:Nat}{l:List Eg}(hw:sw (fun e=>e∈nE) i l g):Cmp n (bu σ i) (qnu l):=by
 have:=h.toFs hw;rwa[h.fin]at this
theorem jkn{E:Eg→Prop}{w:Nat→Int}{i:Nat}{C:List Eg}(hC:sw E i C i)(hw:1≤tz w C):∀K:Nat,∃l,sw E i l i∧(K:Int)≤tz w l
 |0=>⟨[],rfl,Int.le_refl _⟩
 |K+1=>by
  obtain⟨l,h1,h2⟩:=jkn hC hw K;refine⟨C++l,sw.app.2 ⟨i,hC,h1⟩,?_⟩;rw[qe4];omega
theorem jci(h:GG n m M σ N g nE c){ts:List af}(hts:c7 ts n.2.1.length=true){B:af}(hB:LeftOK σ N g nE c n.2.1.length ts B):Sp n ts m B (ru (oz c nE) g n.2.1.length):=by
 have h0m:=h.ok.fst;have of0:∀{ks:List Nat},Cmp n m ks→∃l,sw (fun e=>e∈nE) 0 l g∧qnu l=ks:=fun hc=>h.ofCmp h.pos (by rw[h0m];exact hc)
 have to0:∀{l:List Eg},sw (fun e=>e∈nE) 0 l g→Cmp n m (qnu l):=fun hw=>by have:=h.toCmp hw;rwa[h0m]at this
 have nn:∀{sl:Bool} {i j:Nat} {l:List Eg},sw (fun e=>e∈nE) i l j→0≤tz (gg ts sl) l:=fun hw=>q1t fun e he=>(oe hts _ _ (by rw[gz hts];exact(h.good e (yn hw e he).1).t)).1
 have hmust:∀k:Int,k∈ru (oz c nE) g n.2.1.length↔∃t:Nat,k=(t:Int)∧t<n.2.1.length∧∀ks,Cmp n m ks→t∈ks:=fun k=>by
  constructor
  ·intro hk;obtain⟨t,rfl,ht,_⟩:=qmu.1 hk;refine⟨t,rfl,ht,fun ks hc=> ?_⟩;obtain⟨l,hw,rfl⟩:=of0 hc;obtain⟨e,he,hq⟩:=List.mem_map.1 (jax h hk hw);exact List.mem_map.2 ⟨e,he,by omega⟩
  ·rintro⟨t,rfl,ht,hall⟩;refine qmu.2 ⟨t,rfl,ht,fun⟨l,hl⟩=> ?_⟩;have hw:sw (fun e=>e∈nE) 0 l g:=hl.mono fun e he=>qd4 he.1
   obtain⟨e,he,hq⟩:=List.mem_map.1 (hall _ (to0 hw));exact(yn hl e he).1.2 hq
 cases hB with
 |opn dF v hF h0 ho h1 h2=>
  have hbd:=hF.bd _ _ h0;refine⟨fun ks hc=> ?_,?_,(fun e=>by cases e),(fun e=>by cases e),fun _=> ?_,hmust,hbd.1,hbd.2.1,(fun e=>by cases e)⟩
  ·obtain⟨l,hw,rfl⟩:=of0 hc;rw[xo];exact q73 hF h0 hw
  ·obtain⟨l,hw,he⟩:=q1g hF h0;exact⟨qnu l,to0 hw,by rw[xo];exact he⟩
  ·obtain⟨e,he,⟨p,hp⟩,ho⟩:=ho;have hen:=qd4 he;have hc1:=(Bool.and_eq_true _ _▸(List.mem_filter.1 he).2:c e.1=true∧c e.2.1=true);obtain⟨q,hq⟩:=(h.leads _).1 hc1.2;obtain⟨q',hq'⟩:=(h.leads _).1 hc1.1;have hp' :sw (fun e=>e∈nE) 0 p e.1:=hp.mono fun e he=>qd4 he
   rcases ho with ho|⟨ho,r,hr⟩
   ·refine .inl ⟨qnu (p++e::q),to0 (sw.app.2 ⟨e.1,hp',rfl,hen,hq⟩),e.2.2,List.mem_map.2 ⟨e,by simp,rfl⟩,ho⟩
   ·refine .inr fun K=> ?_
    have hr' :sw (fun e=>e∈nE) e.2.1 r e.1:=hr.mono fun e he=>qd4 he
    have hcy:sw (fun e=>e∈nE) e.1 (e::r) e.1:=⟨rfl,hen,hr'⟩;have hw1:1≤tz (gg ts true) (e::r):=by
     rw[po];have:=nn (sl:=true) hr';have h6:gg ts true e.2.2=grT ts e.2.2:=rfl;omega
    obtain⟨l,hl,hK⟩:=jkn hcy hw1 K.toNat;refine⟨qnu (p++(l++q')),to0 (sw.app.2 ⟨e.1,hp',sw.app.2 ⟨e.1,hl,hq'⟩⟩),?_⟩;rw[xo,qe4,qe4];have a1:=nn (sl:=true) hp';have a2:=nn (sl:=true) hq';omega
 |cls dF dS v u hF h0 ho h1 h2 hS h3=>
  have hbd:=hF.bd _ _ h0;have hbd2:=hS.bd _ _ h3;refine⟨fun ks hc=> ?_,?_,fun _ ks hc=> ?_,fun _=> ?_,(fun e=>by cases e),hmust,hbd.1,hbd.2.1,fun _=>⟨hbd2.1,hbd2.2.1⟩⟩
  ·obtain⟨l,hw,rfl⟩:=of0 hc;rw[xo];exact q73 hF h0 hw
  ·obtain⟨l,hw,he⟩:=q1g hF h0;exact⟨qnu l,to0 hw,by rw[xo];exact he⟩
  ·obtain⟨l,hw,rfl⟩:=of0 hc;refine⟨by rw[xo];exact jhf hS h3 hw,fun t ht=> ?_⟩;obtain⟨e,he,rfl⟩:=List.mem_map.1 ht;have:=List.any_eq_false.1 (ja1 h ho hw) e he;cases hop:opT ts e.2.2 with
   |true=>exact absurd hop this
   |false=>rfl
  ·obtain⟨l,hw,he⟩:=q1g hS h3;exact⟨qnu l,to0 hw,by rw[xo];exact he⟩
end
structure NextOK (ts : List af) (t : Nat) (B B' : af) (mu mu' : List Int) : Prop where
 lo : B.1 ≤ B'.1 + (ts.getD t af.z).1
 op : B.2.2.1 = false → B'.2.2.1 = false ∧ opT ts t = false ∧ B'.2.1 + (ts.getD t af.z).2.1 ≤ B.2.1
 mu : ∀ k ∈ mu, k ≠ (t : Int) → k ∈ mu'
theorem jaz{n:c8}{ts:List af}{x:List Int}{t:Nat}(ht:t<n.2.1.length)(hc:jl (wh n t) x=true){B B' :af}{mu mu' :List Int}(h:Sp n ts x B mu)(h' :Sp n ts (ce (wh n t) x) B' mu'):NextOK ts t B B' mu mu' :=by
 have pre:∀{ks:List Nat},Cmp n (ce (wh n t) x) ks→Cmp n x (t::ks):=fun hk=>⟨ht,hc,hk⟩
 have w1:gg ts false t=(ts.getD t af.z).1:=rfl;have w2:gg ts true t=(ts.getD t af.z).2.1:=rfl;refine⟨?_,fun ho=> ?_,fun k hk hne=> ?_⟩
 ·obtain⟨ks,h1,h2⟩:=h'.loA;have h3:=h.lo _ (pre h1);rw[qnt]at h3;omega
 ·have hno:B'.2.2.1=false:=by
   cases hb:B'.2.2.1 with
   |false=>rfl
   |true=>
    exfalso;rcases h'.opn hb with⟨ks,h1,t',h2,h3⟩|hall
    ·have:=(h.cls ho _ (pre h1)).2 t' (List.mem_cons_of_mem _ h2);rw[this]at h3;cases h3
    ·obtain⟨ks,h1,h2⟩:=hall (B.2.1-gg ts true t+1);have h3:=(h.cls ho _ (pre h1)).1;rw[qnt]at h3;omega
  obtain⟨ks,h1,h2⟩:=h'.clsA hno;have h3:=h.cls ho _ (pre h1);refine⟨hno,h3.2 t List.mem_cons_self,?_⟩;have h4:=h3.1;rw[qnt]at h4;omega
 ·obtain⟨t',rfl,ht',hall⟩:=(h.must k).1 hk;refine(h'.must _).2 ⟨t',rfl,ht',fun ks hk=> ?_⟩;rcases List.mem_cons.1 (hall _ (pre hk))with e|e
  ·exact absurd (by rw[e]) hne
  ·exact e
end Go.Proofs.Ytokeielgplbdeaa
