/-
  Predict: best, whatever the order of the map.
-/
import Derived.Test.YtokeielgplbdeaaZ8D3
set_option linter.all false
namespace Go.Proofs.Ytokeielgplbdeaa
open Go.K Go.M
abbrev Ens:Type:=List (Nat×List (Nat×Nat))
def qre(N TT:Nat)(es:Ens):Prop:=∀p∈es,p.1<N∧∀e∈edA p.1 p.2,GdE N TT e
theorem qcg(p:Nat×List (Nat×Nat))(es:Ens):y4 (p::es)=edA p.1 p.2++y4 es:=rfl
theorem qr0{N TT:Nat}{es:Ens}(h:qre N TT es):∀e∈y4 es,GdE N TT e:=fun e he=>by
 obtain⟨p,hp,he⟩:=List.mem_flatMap.1 he;exact(h p hp).2 e he
theorem q4p{W:Int→Option Int}{w:Nat→Int}{N TT:Nat}(hW:Wt W w TT)(sl:Bool)(hN:N≤100000)(v24 v25:Int)(v28:List (Int×List ab))(g30:List (Int×List ab))(g31 g32:Int):
  ∀(es:Ens) (B:Nat) (b0:Bool) (d:p0),qre N TT es→Bd B d→B+(y4 es).length≤1000000→
  qw7 W sl v24 v25 v28 g30 g31 g32 (es.map kf) (b0,nm N d)=some (.inl ((pass w sl (y4 es) (b0,d)).1,nm N (pass w sl (y4 es) (b0,d)).2))
 |[],B,b0,d,_,_,_=>rfl
 |p::es,B,b0,d,hg,hd,hB=>by
  rw[qcg,List.length_append]at hB;have hp:=hg p List.mem_cons_self;have hlA:(edA p.1 p.2).length=p.2.length:=by unfold edA;rw[List.length_map]
  have h0:=jcn hW sl p.1 hp.1 hN p.2 hp.2 b0 hd (by omega) v24 v25 v28 g30 g31 g32;have hd' :=Bd.pass (w:=w) (sl:=sl) (edA p.1 p.2) (s:=(b0,d)) hd fun e he=>hW.b _ (hp.2 e he).t
  have ih:=q4p hW sl hN v24 v25 v28 g30 g31 g32 es (B+(edA p.1 p.2).length) (pass w sl (edA p.1 p.2) (b0,d)).1 (pass w sl (edA p.1 p.2) (b0,d)).2 (fun q hq=>hg q (List.mem_cons_of_mem _ hq)) hd' (by omega);have e1:pass w sl (y4 (p::es)) (b0,d)=pass w sl (y4 es) (pass w sl (edA p.1 p.2) (b0,d)):=by
   rw[qcg];unfold pass;rw[List.foldl_append]
  rw[e1];have e2:qw8 W sl v24 v25 v28 g30 g31 g32 b0 (nm N d) (kf p) (fun a' =>some (Sum.inl a' :(Bool×List ae)⊕List ae)) (fun r=>some (.inr r))=some (.inl ((pass w sl (edA p.1 p.2) (b0,d)).1,nm N (pass w sl (edA p.1 p.2) (b0,d)).2)):=by
   unfold qw8 kf;simp only[];rw[h0];rfl
  unfold qw7;rw[List.map_cons];simp only[yl,e2];exact ih
def q2s(x:Int×List ab):Nat×List (Nat×Nat):=(x.1.toNat,x.2.map fun a=>(a.1.toNat,a.2.1.toNat))
theorem q40(p:Nat×List (Nat×Nat)):q2s (kf p)=p:=by
 obtain⟨i,A⟩:=p;unfold q2s kf;simp only[Int.toNat_natCast,List.map_map];congr 1;have:((fun a:ab=>(a.1.toNat,a.2.1.toNat))∘bw)=id:=by
  funext q;obtain⟨a,b⟩:=q;simp[bw]
 rw[this,List.map_id]
theorem jd5{es:Ens}{l:List (Int×List ab)}(h:l.Perm (es.map kf)):∃es' :Ens,l=es'.map kf∧es'.Perm es:=by
 refine⟨l.map q2s,?_,?_⟩
 ·rw[List.map_map];have:l.map (kf∘q2s)=l.map id:=List.map_congr_left fun x hx=>by
   obtain⟨p,hp,rfl⟩:=List.mem_map.1 (h.mem_iff.1 hx);show kf (q2s (kf p))=kf p;rw[q40]
  rw[this,List.map_id]
 ·have:=h.map q2s;rw[List.map_map]at this;have e:es.map (q2s∘kf)=es.map id:=List.map_congr_left fun p _=>q40 p
  rw[e,List.map_id]at this;exact this
theorem q9x{es es' :Ens}(h:es'.Perm es):(∀e,e∈y4 es' ↔e∈y4 es)∧(y4 es').length=(y4 es).length:=by
 have hp:(y4 es').Perm (y4 es):=h.flatMap_right _;exact⟨fun e=>hp.mem_iff,hp.length_eq⟩
def qle(g:Nat):p0:=fun i=>if i=g then some (0,0)else none
section
variable {w : Nat → Int} {g : Nat} {sl : Bool} {E : Eg → Prop}
theorem qru:Snd E w g (qle g):=fun i v h=>by
 unfold qle at h;by_cases hi:i=g
 ·rw[if_pos hi]at h;cases h;rw[hi];exact .nil
 ·rw[if_neg hi]at h;cases h
theorem qrt:Atl E w g sl 0 (qle g):=fun i v h hv=>by
 cases h with
 |nil=>exact⟨(0,0),if_pos rfl,qg1 _⟩
 | @cons _ b t u he hw=>
  have:=hw.pos;simp only[yx]at hv;omega
theorem q43:Bd 0 (qle g):=fun i v h=>by
 unfold qle at h;by_cases hi:i=g
 ·rw[if_pos hi]at h;cases h;simp
 ·rw[if_neg hi]at h;cases h
def jc7(w:Nat→Int)(sl:Bool)(g:Nat)(L:List Eg):Nat→p0
 |0=>qle g
 |k+1=>(pass w sl L (false,jc7 w sl g L k)).2
theorem q44{L:List Eg}(hL:∀e,E e↔e∈L):∀k,Snd E w g (jc7 w sl g L k)∧Atl E w g sl k (jc7 w sl g L k)
 |0=>⟨qru,qrt⟩
 |k+1=>by
  obtain⟨h1,h2⟩:=q44 hL k;exact⟨qmc L _ (fun e he=> .inl ((hL e).2 he)) h1,qsy (fun e he=>(hL e).1 he) h2⟩
end
section
variable {W : Int → Option Int} {w : Nat → Int} {N TT g : Nat} {sl : Bool} {es : Ens}
structure BG (W : Int → Option Int) (w : Nat → Int) (N TT g : Nat) (sl : Bool) (es : Ens) : Prop where
 wt : Wt W w TT
 good : qre N TT es
 len : (y4 es).length ≤ 2000
 n100 : N ≤ 100
 gl : g < N
 cyc : qgm (fun e => e ∈ y4 es) w sl g
noncomputable abbrev qla(W:Int→Option Int)(sl:Bool)(N g:Nat)(es:Ens){Q:Type}(a:Int×List ae)(nx:Int×List ae→Option Q)(dn:List ae→Option Q)(rt:List ae→Option Q):Option Q:=
 qk7 (R:=Q) W sl ((N:Int)+1) (es.map kf) (g:Int) (N:Int) a.1 a.2 nx dn rt
structure BI (w : Nat → Int) (g : Nat) (sl : Bool) (es : Ens) (k : Nat) (d : p0) : Prop where
 snd : Snd (fun e => e ∈ y4 es) w g d
 atl : Atl (fun e => e ∈ y4 es) w g sl k d
 bd : Bd (k * 2000) d
theorem BI.opt(h:BG W w N TT g sl es){k:Nat}{d:p0}(hi:BI w g sl es k d)(hk:N≤k):Opt (fun e=>e∈y4 es) w g sl d:=qw5 (fun e he=>(qr0 h.good e he).a) h.cyc hk hi.atl
theorem BI.pass(h:BG W w N TT g sl es){k:Nat}{d:p0}(hi:BI w g sl es k d)(hk:k≤N){es' :Ens}(hp:es'.Perm es)(v24 v25:Int)(v28 g30:List (Int×List ab))(g31 g32:Int):
  qw7 W sl v24 v25 v28 g30 g31 g32 (es'.map kf) (false,nm N d)=some (.inl ((Go.Proofs.Ytokeielgplbdeaa.pass w sl (y4 es') (false,d)).1,nm N (Go.Proofs.Ytokeielgplbdeaa.pass w sl (y4 es') (false,d)).2))∧
  BI w g sl es (k+1) (Go.Proofs.Ytokeielgplbdeaa.pass w sl (y4 es') (false,d)).2∧
  ((Go.Proofs.Ytokeielgplbdeaa.pass w sl (y4 es') (false,d)).1=false→(Go.Proofs.Ytokeielgplbdeaa.pass w sl (y4 es') (false,d)).2=d∧Opt (fun e=>e∈y4 es) w g sl d):=by
 obtain⟨h1,h2⟩:=q9x hp;have hg' :qre N TT es' :=fun p hp' =>h.good p (hp.mem_iff.1 hp')
 have hN:=h.n100;have hlen:=h.len;have hb:=Bd.pass (w:=w) (sl:=sl) (y4 es') (s:=(false,d)) hi.bd fun e he=>h.wt.b _ (qr0 hg' e he).t
 refine⟨q4p h.wt sl (by omega) v24 v25 v28 g30 g31 g32 es' (k*2000) false d hg' hi.bd (by omega),⟨qmc _ _ (fun e he=> .inl ((h1 e).1 he)) hi.snd,qsy (fun e he=>(h1 e).2 he) hi.atl,hb.mono (by omega)⟩,fun hf=> ?_⟩;obtain⟨_,e2,e3⟩:=qn3 _ _ hf;refine⟨e2,q1j (L:=y4 es') (fun e he=>(h1 e).2 he) (fun i v hw hv=>hi.atl i v hw (by omega)) e3⟩
theorem jcp(h:BG W w N TT g sl es){dO:p0}(hs:Snd (fun e=>e∈y4 es) w g dO)(ho:Opt (fun e=>e∈y4 es) w g sl dO):∀(f k:Nat) (d:p0),k+f=N+1→BI w g sl es k d→
  ndN (qla W sl N g es) (fun e=>some e) (fun r=>some r) (nm N dO) (f+1) ((k:Int),nm N d):=by
 have hN:=h.n100;intro f
 induction f with
 |zero=>
  intro k d hk hi;have e:d=dO:=zo hi.snd (hi.opt h (by omega)) hs ho;show qla W sl N g es _ _ _ _=some ();unfold qla qk7;rw[qxa (by simp only[];omega)];exact uk.2 (by rw[e])
 |succ f ih=>
  intro k d hk hi;show qla W sl N g es _ _ _ _=some ();unfold qla qk7;rw[q2h (by simp only[];omega)];refine qy4 fun l hl=> ?_
  obtain⟨es',rfl,hp⟩:=jd5 hl;obtain⟨h1,h2,h3⟩:=hi.pass h (by omega) hp ((N:Int)+1) (k:Int) (es.map kf) (es.map kf) (g:Int) (N:Int);refine⟨_,h1,?_⟩;rw[qyb];cases hb:(Go.Proofs.Ytokeielgplbdeaa.pass w sl (y4 es') (false,d)).1 with
  |false=>
   obtain⟨e2,e3⟩:=h3 hb;simp only[Bool.not_false,cond_true];refine uk.2 ?_;rw[e2,zo hi.snd e3 hs ho]
  |true=>
   simp only[Bool.not_true,cond_false];rw[qqw (by omega) (by omega),al];exact uk.2 (ih (k+1) _ (by omega) h2)
theorem jcq(h:BG W w N TT g sl es){dO:p0}(hs:Snd (fun e=>e∈y4 es) w g dO)(ho:Opt (fun e=>e∈y4 es) w g sl dO)(r' :List ae):∀(n k:Nat) (d:p0),k≤N+1→BI w g sl es k d→
  ndN (qla W sl N g es) (fun e=>some e) (fun r=>some r) r' n ((k:Int),nm N d)→r' =nm N dO:=by
 have hN:=h.n100;intro n
 induction n with
 |zero=>intro k d _ _ hn;exact hn.elim
 |succ n ih=>
  intro k d hk hi hn;have hn:qla W sl N g es ((k:Int),nm N d) (fun s' =>tell (ndN (qla W sl N g es) (fun e=>some e) (fun r=>some r) r' n s')) (fun e=>tell (some e=some r')) (fun x=>tell (some x=some r'))=some ():=hn;unfold qla qk7 at hn;by_cases hkN:k<N+1
  ·rw[q2h (by simp only[];omega)]at hn;obtain⟨y,hy,hlk⟩:=qwj hn _ (List.Perm.refl _);obtain⟨h1,h2,h3⟩:=hi.pass h (by omega) (List.Perm.refl es) ((N:Int)+1) (k:Int) (es.map kf) (es.map kf) (g:Int) (N:Int);rw[h1]at hy;cases hy;rw[qyb]at hlk;cases hb:(Go.Proofs.Ytokeielgplbdeaa.pass w sl (y4 es) (false,d)).1 with
   |false=>
    rw[hb]at hlk;simp only[Bool.not_false,cond_true]at hlk;obtain⟨e2,e3⟩:=h3 hb;have:=uk.1 hlk;rw[e2,zo hi.snd e3 hs ho]at this;exact(Option.some.inj this).symm
   |true=>
    rw[hb]at hlk;simp only[Bool.not_true,cond_false]at hlk;rw[qqw (by omega) (by omega),al]at hlk;exact ih (k+1) _ (by omega) h2 (uk.1 hlk)
  ·rw[qxa (by simp only[];omega)]at hn;have:=uk.1 hn;have e:d=dO:=zo hi.snd (hi.opt h (by omega)) hs ho;simp only[e]at this;exact(Option.some.inj this).symm
theorem jco(h:BG W w N TT g sl es):∃d,q2f (es.map kf) (g:Int) (N:Int) W sl=some (nm N d)∧Snd (fun e=>e∈y4 es) w g d∧Opt (fun e=>e∈y4 es) w g sl d:=by
 have hN:=h.n100;have hg:=h.gl;obtain⟨hs,ha⟩:=q44 (E:=fun e=>e∈y4 es) (w:=w) (g:=g) (sl:=sl) (L:=y4 es) (fun e=>Iff.rfl) N;have ho:=qw5 (fun e he=>(qr0 h.good e he).a) h.cyc (Nat.le_refl N) ha;generalize jc7 w sl g (y4 es) N=dO at hs ha ho;have hi0:BI w g sl es 0 (qle g):=⟨qru,qrt,q43.mono (Nat.zero_le _)⟩;have h1:=jcp h hs ho (N+1) 0 (qle g) (by omega) hi0;have h2:=jj9 (s:=(((0:Nat):Int),nm N (qle g))) h1 fun r' n' hn=>jcq h hs ho r' n' 0 (qle g) (by omega) hi0 hn
 refine⟨dO,?_,hs,ho⟩;have e0:List.replicate N (ae.z:ae)=nm N fun _=>none:=qe6 N _
 have e1:(List.replicate N (ae.z:ae)).set g (true,0,0,())=nm N (qle g):=by
  rw[e0];refine(q09 N (fun _=>none) g (0,0)).trans ?_;congr 1
 have hl:(List.replicate N (ae.z:ae)).length=N:=List.length_replicate;have hz:(List.replicate N (ae.z:ae)).getD g ae.z=ae.z:=by
  rw[e0];exact wu hg _
 have hz1:(ae.z).2.1=(0:Int):=rfl;have hz2:(ae.z).2.2.1=(0:Int):=rfl;unfold q2f;rw[Int.toNat_natCast];simp(disch:=omega)only[hl,hz,hz1,hz2,e1,rs];exact h2
end
end Go.Proofs.Ytokeielgplbdeaa
