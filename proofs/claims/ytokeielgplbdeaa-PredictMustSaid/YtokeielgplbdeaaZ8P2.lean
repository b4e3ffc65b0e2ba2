/-
  Predict: what is left, by completions.
-/
import Derived.Test.YtokeielgplbdeaaZ8P1
set_option linter.all false
namespace Go.Proofs.Ytokeielgplbdeaa
open Go.K Go.M
def Fs(n:cj):List Int→List Nat→List Int→Prop
 |x,[],y=>x=y
 |x,t::ks,y=>t<n.2.1.length∧jm (oi n t) x=true∧Fs n (ca (oi n t) x) ks y
theorem Fs.app{n:cj}{z:List Int}:∀{ks ks' :List Nat} {x y:List Int},Fs n x ks y→Fs n y ks' z→Fs n x (ks++ks') z
 |[],ks',x,y,h,h' =>by rw[show x=y from h];exact h'
 |t::ks,ks',x,y,⟨h1,h2,h3⟩,h' =>⟨h1,h2,Fs.app h3 h'⟩
abbrev Cmp(n:cj)(x:List Int)(ks:List Nat):Prop:=Fs n x ks (qcq n.1 n.2.2.2.1)
abbrev edK(ks:List Nat):List Eg:=ks.map fun t=>(0,0,t)
abbrev q37(ts:List af)(sl:Bool)(ks:List Nat):Int:=wtL (kd ts sl) (edK ks)
abbrev qo0(l:List Eg):List Nat:=l.map fun e=>e.2.2
theorem x5(ts:List af)(sl:Bool):∀l:List Eg,q37 ts sl (qo0 l)=wtL (kd ts sl) l
 |[]=>rfl
 |e::l=>by
  show kd ts sl e.2.2+q37 ts sl (qo0 l)=_;rw[x5 ts sl l];rfl
structure Sp (n : cj) (ts : List af) (x : List Int) (B : af) (mu : List Int) : Prop where
 lo : ∀ ks, Cmp n x ks → B.1 ≤ q37 ts false ks
 loA : ∃ ks, Cmp n x ks ∧ B.1 = q37 ts false ks
 cls : B.2.2.1 = false → ∀ ks, Cmp n x ks → q37 ts true ks ≤ B.2.1 ∧ ∀ t ∈ ks, opT ts t = false
 clsA : B.2.2.1 = false → ∃ ks, Cmp n x ks ∧ B.2.1 = q37 ts true ks
 opn : B.2.2.1 = true → (∃ ks, Cmp n x ks ∧ ∃ t ∈ ks, opT ts t = true) ∨ ∀ K : Int, ∃ ks, Cmp n x ks ∧ K ≤ q37 ts true ks
 must : ∀ k : Int, k ∈ mu ↔ ∃ t : Nat, k = (t : Int) ∧ t < n.2.1.length ∧ ∀ ks, Cmp n x ks → t ∈ ks
 bd : 0 ≤ B.1 ∧ B.1 ≤ 104857600 ∧ (B.2.2.1 = false → 0 ≤ B.2.1 ∧ B.2.1 ≤ 104857600)
section
variable {n : cj} {m : List Int} {M : Nat} {σ : pb} {N g : Nat} {nE : List Eg} {c : Mk}
theorem GG.toFs(h:GG n m M σ N g nE c):∀{l:List Eg} {i j:Nat},tj (fun e=>e∈nE) i l j→Fs n (c7 σ i) (qo0 l) (c7 σ j)
 |[],i,j,hw=>by rw[show i=j from hw];rfl
 |e::l,i,j,⟨h1,h2,h3⟩=>by
  obtain⟨g1,g2⟩:=h.edge h2;refine⟨(h.good e h2).t,by rw[←h1];exact g1,?_⟩;rw[←h1,g2];exact h.toFs h3
theorem GG.ofFs(h:GG n m M σ N g nE c):∀{ks:List Nat} {i:Nat} {y:List Int},i<N→Fs n (c7 σ i) ks y→∃l j,tj (fun e=>e∈nE) i l j∧qo0 l=ks∧c7 σ j=y∧j<N
 |[],i,y,hi,hf=>⟨[],i,rfl,rfl,hf,hi⟩
 |t::ks,i,y,hi,⟨h1,h2,h3⟩=>by
  obtain⟨b,hb⟩:=h.ok.full h.full i t (by rw[←h.eN];exact hi) h1 h2;have he:(i,b,t)∈nE:=by rw[h.eE];exact(qxl h.ok).2 hb
  have h4:=(h.edge he).2;rw[show ca (oi n t) (c7 σ i)=c7 σ b from h4]at h3;obtain⟨l,j,g1,g2,g3,g4⟩:=h.ofFs (h.good _ he).b h3;exact⟨(i,b,t)::l,j,⟨rfl,he,g1⟩,by rw[←g2];rfl,g3,g4⟩
theorem jax{α:Type}{l:List α}(h:l.Nodup)(z:α){i j:Nat}(hi:i<l.length)(hj:j<l.length)(e:l.getD i z=l.getD j z):i=j:=by
 rw[jx l i z hi,jx l j z hj]at e;exact(List.getElem_inj h).1 e
theorem GG.ofCmp(h:GG n m M σ N g nE c){i:Nat}(hi:i<N){ks:List Nat}(hc:Cmp n (c7 σ i) ks):∃l,tj (fun e=>e∈nE) i l g∧qo0 l=ks:=by
 obtain⟨l,j,h1,h2,h3,h4⟩:=h.ofFs hi hc;have:j=g:=jax h.ok.sp.nd [] (by rw[←h.eN];exact h4) (by rw[←h.eN];exact h.gl) (h3.trans h.fin.symm);rw[this]at h1;exact⟨l,h1,h2⟩
theorem GG.toCmp(h:GG n m M σ N g nE c){i:Nat}{l:List Eg}(hw:tj (fun e=>e∈nE) i l g):Cmp n (c7 σ i) (qo0 l):=by
 have:=h.toFs hw;rwa[h.fin]at this
theorem jnm{E:Eg→Prop}{w:Nat→Int}{i:Nat}{C:List Eg}(hC:tj E i C i)(hw:1≤wtL w C):∀K:Nat,∃l,tj E i l i∧(K:Int)≤wtL w l
 |0=>⟨[],rfl,Int.le_refl _⟩
 |K+1=>by
  obtain⟨l,h1,h2⟩:=jnm hC hw K;refine⟨C++l,tj.app.2 ⟨i,hC,h1⟩,?_⟩;rw[qim];omega
theorem jnq(h:GG n m M σ N g nE c){ts:List af}(hts:du ts n.2.1.length=true){B:af}(hB:LeftOK σ N g nE c n.2.1.length ts B):Sp n ts m B (o7 (ov c nE) g n.2.1.length):=by
 have h0m:=h.ok.fst;have of0:∀{ks:List Nat},Cmp n m ks→∃l,tj (fun e=>e∈nE) 0 l g∧qo0 l=ks:=fun hc=>h.ofCmp h.pos (by rw[h0m];exact hc)
 have to0:∀{l:List Eg},tj (fun e=>e∈nE) 0 l g→Cmp n m (qo0 l):=fun hw=>by have:=h.toCmp hw;rwa[h0m]at this
 have nn:∀{sl:Bool} {i j:Nat} {l:List Eg},tj (fun e=>e∈nE) i l j→0≤wtL (kd ts sl) l:=fun hw=>q4e fun e he=>(ul hts _ _ (by rw[jl hts];exact(h.good e (y7 hw e he).1).t)).1
 have hmust:∀k:Int,k∈o7 (ov c nE) g n.2.1.length↔∃t:Nat,k=(t:Int)∧t<n.2.1.length∧∀ks,Cmp n m ks→t∈ks:=fun k=>by
  constructor
  ·intro hk;obtain⟨t,rfl,ht,_⟩:=qnx.1 hk;refine⟨t,rfl,ht,fun ks hc=> ?_⟩;obtain⟨l,hw,rfl⟩:=of0 hc;obtain⟨e,he,hq⟩:=List.mem_map.1 (jdv h hk hw);exact List.mem_map.2 ⟨e,he,by omega⟩
  ·rintro⟨t,rfl,ht,hall⟩;refine qnx.2 ⟨t,rfl,ht,fun⟨l,hl⟩=> ?_⟩;have hw:tj (fun e=>e∈nE) 0 l g:=hl.mono fun e he=>qee he.1
   obtain⟨e,he,hq⟩:=List.mem_map.1 (hall _ (to0 hw));exact(y7 hl e he).1.2 hq
 cases hB with
 |opn dF v hF h0 ho h1 h2=>
  have hbd:=hF.bd _ _ h0;refine⟨fun ks hc=> ?_,?_,(fun e=>by cases e),(fun e=>by cases e),fun _=> ?_,hmust,hbd.1,hbd.2.1,(fun e=>by cases e)⟩
  ·obtain⟨l,hw,rfl⟩:=of0 hc;rw[x5];exact ja5 hF h0 hw
  ·obtain⟨l,hw,he⟩:=q30 hF h0;exact⟨qo0 l,to0 hw,by rw[x5];exact he⟩
  ·obtain⟨e,he,⟨p,hp⟩,ho⟩:=ho;have hen:=qee he;have hc1:=(Bool.and_eq_true _ _▸(List.mem_filter.1 he).2:c e.1=true∧c e.2.1=true);obtain⟨q,hq⟩:=(h.leads _).1 hc1.2;obtain⟨q',hq'⟩:=(h.leads _).1 hc1.1;have hp' :tj (fun e=>e∈nE) 0 p e.1:=hp.mono fun e he=>qee he
   rcases ho with ho|⟨ho,r,hr⟩
   ·refine .inl ⟨qo0 (p++e::q),to0 (tj.app.2 ⟨e.1,hp',rfl,hen,hq⟩),e.2.2,List.mem_map.2 ⟨e,by simp,rfl⟩,ho⟩
   ·refine .inr fun K=> ?_
    have hr' :tj (fun e=>e∈nE) e.2.1 r e.1:=hr.mono fun e he=>qee he
    have hcy:tj (fun e=>e∈nE) e.1 (e::r) e.1:=⟨rfl,hen,hr'⟩;have hw1:1≤wtL (kd ts true) (e::r):=by
     rw[rm];have:=nn (sl:=true) hr';have h6:kd ts true e.2.2=grT ts e.2.2:=rfl;omega
    obtain⟨l,hl,hK⟩:=jnm hcy hw1 K.toNat;refine⟨qo0 (p++(l++q')),to0 (tj.app.2 ⟨e.1,hp',tj.app.2 ⟨e.1,hl,hq'⟩⟩),?_⟩;rw[x5,qim,qim];have a1:=nn (sl:=true) hp';have a2:=nn (sl:=true) hq';omega
 |cls dF dS v u hF h0 ho h1 h2 hS h3=>
  have hbd:=hF.bd _ _ h0;have hbd2:=hS.bd _ _ h3;refine⟨fun ks hc=> ?_,?_,fun _ ks hc=> ?_,fun _=> ?_,(fun e=>by cases e),hmust,hbd.1,hbd.2.1,fun _=>⟨hbd2.1,hbd2.2.1⟩⟩
  ·obtain⟨l,hw,rfl⟩:=of0 hc;rw[x5];exact ja5 hF h0 hw
  ·obtain⟨l,hw,he⟩:=q30 hF h0;exact⟨qo0 l,to0 hw,by rw[x5];exact he⟩
  ·obtain⟨l,hw,rfl⟩:=of0 hc;refine⟨by rw[x5];exact jkb hS h3 hw,fun t ht=> ?_⟩;obtain⟨e,he,rfl⟩:=List.mem_map.1 ht;have:=List.any_eq_false.1 (jdz h ho hw) e he;cases hop:opT ts e.2.2 with
   |true=>exact absurd hop this
   |false=>rfl
  ·obtain⟨l,hw,he⟩:=q30 hS h3;exact⟨qo0 l,to0 hw,by rw[x5];exact he⟩
end
structure NextOK (ts : List af) (t : Nat) (B B' : af) (mu mu' : List Int) : Prop where
 lo : B.1 ≤ B'.1 + (ts.getD t af.z).1
 op : B.2.2.1 = false → B'.2.2.1 = false ∧ opT ts t = false ∧ B'.2.1 + (ts.getD t af.z).2.1 ≤ B.2.1
 mu : ∀ k ∈ mu, k ≠ (t : Int) → k ∈ mu'
end Go.Proofs.Ytokeielgplbdeaa
