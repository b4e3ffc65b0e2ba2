/-
  Predict: best, whatever the order of the map.
-/
import Derived.Test.YtokeielgplbdeaaZ3D3
set_option linter.all false
namespace Go.Proofs.Ytokeielgplbdeaa
open Go.K Go.M
abbrev Ens:Type:=List (Nat×List (Nat×Nat))
def qs2(N TT:Nat)(es:Ens):Prop:=∀p∈es,p.1<N∧∀e∈edA p.1 p.2,GdE N TT e
theorem qb9(p:Nat×List (Nat×Nat))(es:Ens):yh (p::es)=edA p.1 p.2++yh es:=rfl
theorem qtl{N TT:Nat}{es:Ens}(h:qs2 N TT es):∀e∈yh es,GdE N TT e:=fun e he=>by
 obtain⟨p,hp,he⟩:=List.mem_flatMap.1 he;exact(h p hp).2 e he
theorem q6p{W:Int→Option Int}{w:Nat→Int}{N TT:Nat}(hW:Wt W w TT)(sl:Bool)(hN:N≤100000)(v24 v25:Int)(v28:List (Int×List ab))(g30:List (Int×List ab))(g31 g32:Int):
  ∀(es:Ens) (B:Nat) (b0:Bool) (d:pz),qs2 N TT es→Bd B d→B+(yh es).length≤1000000→
  qy7 W sl v24 v25 v28 g30 g31 g32 (es.map jx) (b0,m8 N d)=some (.inl ((pass w sl (yh es) (b0,d)).1,m8 N (pass w sl (yh es) (b0,d)).2))
 |[],B,b0,d,_,_,_=>rfl
 |p::es,B,b0,d,hg,hd,hB=>by
  rw[qb9,List.length_append]at hB;have hp:=hg p List.mem_cons_self;have hlA:(edA p.1 p.2).length=p.2.length:=by unfold edA;rw[List.length_map]
  have h0:=jd5 hW sl p.1 hp.1 hN p.2 hp.2 b0 hd (by omega) v24 v25 v28 g30 g31 g32;have hd' :=Bd.pass (w:=w) (sl:=sl) (edA p.1 p.2) (s:=(b0,d)) hd fun e he=>hW.b _ (hp.2 e he).t
  have ih:=q6p hW sl hN v24 v25 v28 g30 g31 g32 es (B+(edA p.1 p.2).length) (pass w sl (edA p.1 p.2) (b0,d)).1 (pass w sl (edA p.1 p.2) (b0,d)).2 (fun q hq=>hg q (List.mem_cons_of_mem _ hq)) hd' (by omega);have e1:pass w sl (yh (p::es)) (b0,d)=pass w sl (yh es) (pass w sl (edA p.1 p.2) (b0,d)):=by
   rw[qb9];unfold pass;rw[List.foldl_append]
  rw[e1];have e2:qy8 W sl v24 v25 v28 g30 g31 g32 b0 (m8 N d) (jx p) (fun a' =>some (Sum.inl a' :(Bool×List ae)⊕List ae)) (fun r=>some (.inr r))=some (.inl ((pass w sl (edA p.1 p.2) (b0,d)).1,m8 N (pass w sl (edA p.1 p.2) (b0,d)).2)):=by
   unfold qy8 jx;simp only[];rw[h0];rfl
  unfold qy7;rw[List.map_cons];simp only[wg,e2];exact ih
def q4v(x:Int×List ab):Nat×List (Nat×Nat):=(x.1.toNat,x.2.map fun a=>(a.1.toNat,a.2.1.toNat))
theorem q60(p:Nat×List (Nat×Nat)):q4v (jx p)=p:=by
 obtain⟨i,A⟩:=p;unfold q4v jx;simp only[Int.toNat_natCast,List.map_map];congr 1;have:((fun a:ab=>(a.1.toNat,a.2.1.toNat))∘bx)=id:=by
  funext q;obtain⟨a,b⟩:=q;simp[bx]
 rw[this,List.map_id]
theorem jfo{es:Ens}{l:List (Int×List ab)}(h:l.Perm (es.map jx)):∃es' :Ens,l=es'.map jx∧es'.Perm es:=by
 refine⟨l.map q4v,?_,?_⟩
 ·rw[List.map_map];have:l.map (jx∘q4v)=l.map id:=List.map_congr_left fun x hx=>by
   obtain⟨p,hp,rfl⟩:=List.mem_map.1 (h.mem_iff.1 hx);show jx (q4v (jx p))=jx p;rw[q60]
  rw[this,List.map_id]
 ·have:=h.map q4v;rw[List.map_map]at this;have e:es.map (q4v∘jx)=es.map id:=List.map_congr_left fun p _=>q60 p
  rw[e,List.map_id]at this;exact this
theorem jbi{es es' :Ens}(h:es'.Perm es):(∀e,e∈yh es' ↔e∈yh es)∧(yh es').length=(yh es).length:=by
 have hp:(yh es').Perm (yh es):=h.flatMap_right _;exact⟨fun e=>hp.mem_iff,hp.length_eq⟩
def ql8(g:Nat):pz:=fun i=>if i=g then some (0,0)else none
section
variable {w : Nat → Int} {g : Nat} {sl : Bool} {E : Eg → Prop}
theorem qte:Snd E w g (ql8 g):=fun i v h=>by
 unfold ql8 at h;by_cases hi:i=g
 ·rw[if_pos hi]at h;cases h;rw[hi];exact .nil
 ·rw[if_neg hi]at h;cases h
theorem qtd:Atl E w g sl 0 (ql8 g):=fun i v h hv=>by
 cases h with
 |nil=>exact⟨(0,0),if_pos rfl,qg3 _⟩
 | @cons _ b t u he hw=>
  have:=hw.pos;simp only[ye]at hv;omega
theorem q63:Bd 0 (ql8 g):=fun i v h=>by
 unfold ql8 at h;by_cases hi:i=g
 ·rw[if_pos hi]at h;cases h;simp
 ·rw[if_neg hi]at h;cases h
def jer(w:Nat→Int)(sl:Bool)(g:Nat)(L:List Eg):Nat→pz
 |0=>ql8 g
 |k+1=>(pass w sl L (false,jer w sl g L k)).2
theorem q64{L:List Eg}(hL:∀e,E e↔e∈L):∀k,Snd E w g (jer w sl g L k)∧Atl E w g sl k (jer w sl g L k)
 |0=>⟨qte,qtd⟩
 |k+1=>by
  obtain⟨h1,h2⟩:=q64 hL k;exact⟨qm6 L _ (fun e he=> .inl ((hL e).2 he)) h1,quk (fun e he=>(hL e).1 he) h2⟩
end
section
variable {W : Int → Option Int} {w : Nat → Int} {N TT g : Nat} {sl : Bool} {es : Ens}
structure BG (W : Int → Option Int) (w : Nat → Int) (N TT g : Nat) (sl : Bool) (es : Ens) : Prop where
 wt : Wt W w TT
 good : qs2 N TT es
 len : (yh es).length ≤ 2000
 n100 : N ≤ 100
 gl : g < N
 cyc : qgq (fun e => e ∈ yh es) w sl g
noncomputable abbrev ql5(W:Int→Option Int)(sl:Bool)(N g:Nat)(es:Ens){Q:Type}(a:Int×List ae)(nx:Int×List ae→Option Q)(dn:List ae→Option Q)(rt:List ae→Option Q):Option Q:=
 ql3 (R:=Q) W sl ((N:Int)+1) (es.map jx) (g:Int) (N:Int) a.1 a.2 nx dn rt
structure BI (w : Nat → Int) (g : Nat) (sl : Bool) (es : Ens) (k : Nat) (d : pz) : Prop where
 snd : Snd (fun e => e ∈ yh es) w g d
 atl : Atl (fun e => e ∈ yh es) w g sl k d
 bd : Bd (k * 2000) d
theorem BI.opt(h:BG W w N TT g sl es){k:Nat}{d:pz}(hi:BI w g sl es k d)(hk:N≤k):Opt (fun e=>e∈yh es) w g sl d:=qy5 (fun e he=>(qtl h.good e he).a) h.cyc hk hi.atl
theorem BI.pass(h:BG W w N TT g sl es){k:Nat}{d:pz}(hi:BI w g sl es k d)(hk:k≤N){es' :Ens}(hp:es'.Perm es)(v24 v25:Int)(v28 g30:List (Int×List ab))(g31 g32:Int):
  qy7 W sl v24 v25 v28 g30 g31 g32 (es'.map jx) (false,m8 N d)=some (.inl ((Go.Proofs.Ytokeielgplbdeaa.pass w sl (yh es') (false,d)).1,m8 N (Go.Proofs.Ytokeielgplbdeaa.pass w sl (yh es') (false,d)).2))∧
  BI w g sl es (k+1) (Go.Proofs.Ytokeielgplbdeaa.pass w sl (yh es') (false,d)).2∧
  ((Go.Proofs.Ytokeielgplbdeaa.pass w sl (yh es') (false,d)).1=false→(Go.Proofs.Ytokeielgplbdeaa.pass w sl (yh es') (false,d)).2=d∧Opt (fun e=>e∈yh es) w g sl d):=by
 obtain⟨h1,h2⟩:=jbi hp;have hg' :qs2 N TT es' :=fun p hp' =>h.good p (hp.mem_iff.1 hp')
 have hN:=h.n100;have hlen:=h.len;have hb:=Bd.pass (w:=w) (sl:=sl) (yh es') (s:=(false,d)) hi.bd fun e he=>h.wt.b _ (qtl hg' e he).t
 refine⟨q6p h.wt sl (by omega) v24 v25 v28 g30 g31 g32 es' (k*2000) false d hg' hi.bd (by omega),⟨qm6 _ _ (fun e he=> .inl ((h1 e).1 he)) hi.snd,quk (fun e he=>(h1 e).2 he) hi.atl,hb.mono (by omega)⟩,fun hf=> ?_⟩;obtain⟨_,e2,e3⟩:=qo3 _ _ hf;refine⟨e2,q3m (L:=yh es') (fun e he=>(h1 e).2 he) (fun i v hw hv=>hi.atl i v hw (by omega)) e3⟩
theorem jd7(h:BG W w N TT g sl es){dO:pz}(hs:Snd (fun e=>e∈yh es) w g dO)(ho:Opt (fun e=>e∈yh es) w g sl dO):∀(f k:Nat) (d:pz),k+f=N+1→BI w g sl es k d→
  ndN (ql5 W sl N g es) (fun e=>some e) (fun r=>some r) (m8 N dO) (f+1) ((k:Int),m8 N d):=by
 have hN:=h.n100;intro f
 induction f with
 |zero=>
  intro k d hk hi;have e:d=dO:=y3 hi.snd (hi.opt h (by omega)) hs ho;show ql5 W sl N g es _ _ _ _=some ();unfold ql5 ql3;rw[qy9 (by simp only[];omega)];exact tv.2 (by rw[e])
 |succ f ih=>
  intro k d hk hi;show ql5 W sl N g es _ _ _ _=some ();unfold ql5 ql3;rw[q4k (by simp only[];omega)];refine q05 fun l hl=> ?_
  obtain⟨es',rfl,hp⟩:=jfo hl;obtain⟨h1,h2,h3⟩:=hi.pass h (by omega) hp ((N:Int)+1) (k:Int) (es.map jx) (es.map jx) (g:Int) (N:Int);refine⟨_,h1,?_⟩;rw[qz5];cases hb:(Go.Proofs.Ytokeielgplbdeaa.pass w sl (yh es') (false,d)).1 with
  |false=>
   obtain⟨e2,e3⟩:=h3 hb;simp only[Bool.not_false,cond_true];refine tv.2 ?_;rw[e2,y3 hi.snd e3 hs ho]
  |true=>
   simp only[Bool.not_true,cond_false];rw[qsm (by omega) (by omega),al];exact tv.2 (ih (k+1) _ (by omega) h2)
theorem jd8(h:BG W w N TT g sl es){dO:pz}(hs:Snd (fun e=>e∈yh es) w g dO)(ho:Opt (fun e=>e∈yh es) w g sl dO)(r' :List ae):∀(n k:Nat) (d:pz),k≤N+1→BI w g sl es k d→
  ndN (ql5 W sl N g es) (fun e=>some e) (fun r=>some r) r' n ((k:Int),m8 N d)→r' =m8 N dO:=by
 have hN:=h.n100;intro n
 induction n with
 |zero=>intro k d _ _ hn;exact hn.elim
 |succ n ih=>
  intro k d hk hi hn;have hn:ql5 W sl N g es ((k:Int),m8 N d) (fun s' =>tell (ndN (ql5 W sl N g es) (fun e=>some e) (fun r=>some r) r' n s')) (fun e=>tell (some e=some r')) (fun x=>tell (some x=some r'))=some ():=hn;unfold ql5 ql3 at hn;by_cases hkN:k<N+1
  ·rw[q4k (by simp only[];omega)]at hn;obtain⟨y,hy,hlk⟩:=qyn hn _ (List.Perm.refl _);obtain⟨h1,h2,h3⟩:=hi.pass h (by omega) (List.Perm.refl es) ((N:Int)+1) (k:Int) (es.map jx) (es.map jx) (g:Int) (N:Int);rw[h1]at hy;cases hy;rw[qz5]at hlk;cases hb:(Go.Proofs.Ytokeielgplbdeaa.pass w sl (yh es) (false,d)).1 with
   |false=>
    rw[hb]at hlk;simp only[Bool.not_false,cond_true]at hlk;obtain⟨e2,e3⟩:=h3 hb;have:=tv.1 hlk;rw[e2,y3 hi.snd e3 hs ho]at this;exact(Option.some.inj this).symm
   |true=>
    rw[hb]at hlk;simp only[Bool.not_true,cond_false]at hlk;rw[qsm (by omega) (by omega),al]at hlk;exact ih (k+1) _ (by omega) h2 (tv.1 hlk)
  ·rw[qy9 (by simp only[];omega)]at hn;have:=tv.1 hn;have e:d=dO:=y3 hi.snd (hi.opt h (by omega)) hs ho;simp only[e]at this;exact(Option.some.inj this).symm
theorem jd6(h:BG W w N TT g sl es):∃d,q4i (es.map jx) (g:Int) (N:Int) W sl=some (m8 N d)∧Snd (fun e=>e∈yh es) w g d∧Opt (fun e=>e∈yh es) w g sl d:=by
 have hN:=h.n100;have hg:=h.gl;obtain⟨hs,ha⟩:=q64 (E:=fun e=>e∈yh es) (w:=w) (g:=g) (sl:=sl) (L:=yh es) (fun e=>Iff.rfl) N;have ho:=qy5 (fun e he=>(qtl h.good e he).a) h.cyc (Nat.le_refl N) ha;generalize jer w sl g (yh es) N=dO at hs ha ho;have hi0:BI w g sl es 0 (ql8 g):=⟨qte,qtd,q63.mono (Nat.zero_le _)⟩;have h1:=jd7 h hs ho (N+1) 0 (ql8 g) (by omega) hi0;have h2:=jlq (s:=(((0:Nat):Int),m8 N (ql8 g))) h1 fun r' n' hn=>jd8 h hs ho r' n' 0 (ql8 g) (by omega) hi0 hn
 refine⟨dO,?_,hs,ho⟩;have e0:List.replicate N (ae.z:ae)=m8 N fun _=>none:=qiu N _
 have e1:(List.replicate N (ae.z:ae)).set g (true,0,0,())=m8 N (ql8 g):=by
  rw[e0];refine(q27 N (fun _=>none) g (0,0)).trans ?_;congr 1
 have hl:(List.replicate N (ae.z:ae)).length=N:=List.length_replicate;have hz:(List.replicate N (ae.z:ae)).getD g ae.z=ae.z:=by
  rw[e0];exact vq hg _
 have hz1:(ae.z).2.1=(0:Int):=rfl;have hz2:(ae.z).2.2.1=(0:Int):=rfl;unfold q4i;rw[Int.toNat_natCast];simp(disch:=omega)only[hl,hz,hz1,hz2,e1,rs];exact h2
end
end Go.Proofs.Ytokeielgplbdeaa
