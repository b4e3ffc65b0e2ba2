/-
  Predict: best, whatever the order of the map.
-/
import Derived.Test.YtokeielgplbdeaaZ5D3
set_option linter.all false
namespace Go.Proofs.Ytokeielgplbdeaa
open Go.K Go.M
abbrev Ens:Type:=List (Nat×List (Nat×Nat))
def qoo(N TT:Nat)(es:Ens):Prop:=∀p∈es,p.1<N∧∀e∈edA p.1 p.2,GdE N TT e
theorem qbb(p:Nat×List (Nat×Nat))(es:Ens):x0 (p::es)=edA p.1 p.2++x0 es:=rfl
theorem qo7{N TT:Nat}{es:Ens}(h:qoo N TT es):∀e∈x0 es,GdE N TT e:=fun e he=>by
 obtain⟨p,hp,he⟩:=List.mem_flatMap.1 he;exact(h p hp).2 e he
theorem q00{W:Int→Option Int}{w:Nat→Int}{N TT:Nat}(hW:Wt W w TT)(sl:Bool)(hN:N≤100000)(v24 v25:Int)(v28:List (Int×List ab))(g30:List (Int×List ab))(g31 g32:Int):
  ∀(es:Ens) (B:Nat) (b0:Bool) (d:pd),qoo N TT es→Bd B d→B+(x0 es).length≤1000000→
  qtz W sl v24 v25 v28 g30 g31 g32 (es.map j5) (b0,m9 N d)=some (.inl ((pass w sl (x0 es) (b0,d)).1,m9 N (pass w sl (x0 es) (b0,d)).2))
 |[],B,b0,d,_,_,_=>rfl
 |p::es,B,b0,d,hg,hd,hB=>by
  rw[qbb,List.length_append]at hB;have hp:=hg p List.mem_cons_self;have hlA:(edA p.1 p.2).length=p.2.length:=by unfold edA;rw[List.length_map]
  have h0:=q8f hW sl p.1 hp.1 hN p.2 hp.2 b0 hd (by omega) v24 v25 v28 g30 g31 g32;have hd' :=Bd.pass (w:=w) (sl:=sl) (edA p.1 p.2) (s:=(b0,d)) hd fun e he=>hW.b _ (hp.2 e he).t
  have ih:=q00 hW sl hN v24 v25 v28 g30 g31 g32 es (B+(edA p.1 p.2).length) (pass w sl (edA p.1 p.2) (b0,d)).1 (pass w sl (edA p.1 p.2) (b0,d)).2 (fun q hq=>hg q (List.mem_cons_of_mem _ hq)) hd' (by omega);have e1:pass w sl (x0 (p::es)) (b0,d)=pass w sl (x0 es) (pass w sl (edA p.1 p.2) (b0,d)):=by
   rw[qbb];unfold pass;rw[List.foldl_append]
  rw[e1];have e2:qt0 W sl v24 v25 v28 g30 g31 g32 b0 (m9 N d) (j5 p) (fun a' =>some (Sum.inl a' :(Bool×List ae)⊕List ae)) (fun r=>some (.inr r))=some (.inl ((pass w sl (edA p.1 p.2) (b0,d)).1,m9 N (pass w sl (edA p.1 p.2) (b0,d)).2)):=by
   unfold qt0 j5;simp only[];rw[h0];rfl
  unfold qtz;rw[List.map_cons];simp only[xm,e2];exact ih
def qy7(x:Int×List ab):Nat×List (Nat×Nat):=(x.1.toNat,x.2.map fun a=>(a.1.toNat,a.2.1.toNat))
theorem q1b(p:Nat×List (Nat×Nat)):qy7 (j5 p)=p:=by
 obtain⟨i,A⟩:=p;unfold qy7 j5;simp only[Int.toNat_natCast,List.map_map];congr 1;have:((fun a:ab=>(a.1.toNat,a.2.1.toNat))∘b8)=id:=by
  funext q;obtain⟨a,b⟩:=q;simp[b8]
 rw[this,List.map_id]
theorem q92{es:Ens}{l:List (Int×List ab)}(h:l.Perm (es.map j5)):∃es' :Ens,l=es'.map j5∧es'.Perm es:=by
 refine⟨l.map qy7,?_,?_⟩
 ·rw[List.map_map];have:l.map (j5∘qy7)=l.map id:=List.map_congr_left fun x hx=>by
   obtain⟨p,hp,rfl⟩:=List.mem_map.1 (h.mem_iff.1 hx);show j5 (qy7 (j5 p))=j5 p;rw[q1b]
  rw[this,List.map_id]
 ·have:=h.map qy7;rw[List.map_map]at this;have e:es.map (qy7∘j5)=es.map id:=List.map_congr_left fun p _=>q1b p
  rw[e,List.map_id]at this;exact this
theorem q5r{es es' :Ens}(h:es'.Perm es):(∀e,e∈x0 es' ↔e∈x0 es)∧(x0 es').length=(x0 es).length:=by
 have hp:(x0 es').Perm (x0 es):=h.flatMap_right _;exact⟨fun e=>hp.mem_iff,hp.length_eq⟩
def qjl(g:Nat):pd:=fun i=>if i=g then some (0,0)else none
section
variable {w : Nat → Int} {g : Nat} {sl : Bool} {E : Eg → Prop}
theorem qo0:Snd E w g (qjl g):=fun i v h=>by
 unfold qjl at h;by_cases hi:i=g
 ·rw[if_pos hi]at h;cases h;rw[hi];exact .nil
 ·rw[if_neg hi]at h;cases h
theorem qoz:Atl E w g sl 0 (qjl g):=fun i v h hv=>by
 cases h with
 |nil=>exact⟨(0,0),if_pos rfl,qfs _⟩
 | @cons _ b t u he hw=>
  have:=hw.pos;simp only[xx]at hv;omega
theorem q1e:Bd 0 (qjl g):=fun i v h=>by
 unfold qjl at h;by_cases hi:i=g
 ·rw[if_pos hi]at h;cases h;simp
 ·rw[if_neg hi]at h;cases h
def q80(w:Nat→Int)(sl:Bool)(g:Nat)(L:List Eg):Nat→pd
 |0=>qjl g
 |k+1=>(pass w sl L (false,q80 w sl g L k)).2
theorem q1f{L:List Eg}(hL:∀e,E e↔e∈L):∀k,Snd E w g (q80 w sl g L k)∧Atl E w g sl k (q80 w sl g L k)
 |0=>⟨qo0,qoz⟩
 |k+1=>by
  obtain⟨h1,h2⟩:=q1f hL k;exact⟨qkj L _ (fun e he=> .inl ((hL e).2 he)) h1,qp8 (fun e he=>(hL e).1 he) h2⟩
end
section
variable {W : Int → Option Int} {w : Nat → Int} {N TT g : Nat} {sl : Bool} {es : Ens}
structure BG (W : Int → Option Int) (w : Nat → Int) (N TT g : Nat) (sl : Bool) (es : Ens) : Prop where
 wt : Wt W w TT
 good : qoo N TT es
 len : (x0 es).length ≤ 2000
 n100 : N ≤ 100
 gl : g < N
 cyc : qfa (fun e => e ∈ x0 es) w sl g
noncomputable abbrev qji(W:Int→Option Int)(sl:Bool)(N g:Nat)(es:Ens){Q:Type}(a:Int×List ae)(nx:Int×List ae→Option Q)(dn:List ae→Option Q)(rt:List ae→Option Q):Option Q:=
 qjg (R:=Q) W sl ((N:Int)+1) (es.map j5) (g:Int) (N:Int) a.1 a.2 nx dn rt
structure BI (w : Nat → Int) (g : Nat) (sl : Bool) (es : Ens) (k : Nat) (d : pd) : Prop where
 snd : Snd (fun e => e ∈ x0 es) w g d
 atl : Atl (fun e => e ∈ x0 es) w g sl k d
 bd : Bd (k * 2000) d
theorem BI.opt(h:BG W w N TT g sl es){k:Nat}{d:pd}(hi:BI w g sl es k d)(hk:N≤k):Opt (fun e=>e∈x0 es) w g sl d:=qtx (fun e he=>(qo7 h.good e he).a) h.cyc hk hi.atl
theorem BI.pass(h:BG W w N TT g sl es){k:Nat}{d:pd}(hi:BI w g sl es k d)(hk:k≤N){es' :Ens}(hp:es'.Perm es)(v24 v25:Int)(v28 g30:List (Int×List ab))(g31 g32:Int):
  qtz W sl v24 v25 v28 g30 g31 g32 (es'.map j5) (false,m9 N d)=some (.inl ((Go.Proofs.Ytokeielgplbdeaa.pass w sl (x0 es') (false,d)).1,m9 N (Go.Proofs.Ytokeielgplbdeaa.pass w sl (x0 es') (false,d)).2))∧
  BI w g sl es (k+1) (Go.Proofs.Ytokeielgplbdeaa.pass w sl (x0 es') (false,d)).2∧
  ((Go.Proofs.Ytokeielgplbdeaa.pass w sl (x0 es') (false,d)).1=false→(Go.Proofs.Ytokeielgplbdeaa.pass w sl (x0 es') (false,d)).2=d∧Opt (fun e=>e∈x0 es) w g sl d):=by
 obtain⟨h1,h2⟩:=q5r hp;have hg' :qoo N TT es' :=fun p hp' =>h.good p (hp.mem_iff.1 hp')
 have hN:=h.n100;have hlen:=h.len;have hb:=Bd.pass (w:=w) (sl:=sl) (x0 es') (s:=(false,d)) hi.bd fun e he=>h.wt.b _ (qo7 hg' e he).t
 refine⟨q00 h.wt sl (by omega) v24 v25 v28 g30 g31 g32 es' (k*2000) false d hg' hi.bd (by omega),⟨qkj _ _ (fun e he=> .inl ((h1 e).1 he)) hi.snd,qp8 (fun e he=>(h1 e).2 he) hi.atl,hb.mono (by omega)⟩,fun hf=> ?_⟩;obtain⟨_,e2,e3⟩:=ql1 _ _ hf;refine⟨e2,qxz (L:=x0 es') (fun e he=>(h1 e).2 he) (fun i v hw hv=>hi.atl i v hw (by omega)) e3⟩
theorem q8h(h:BG W w N TT g sl es){dO:pd}(hs:Snd (fun e=>e∈x0 es) w g dO)(ho:Opt (fun e=>e∈x0 es) w g sl dO):∀(f k:Nat) (d:pd),k+f=N+1→BI w g sl es k d→
  ndN (qji W sl N g es) (fun e=>some e) (fun r=>some r) (m9 N dO) (f+1) ((k:Int),m9 N d):=by
 have hN:=h.n100;intro f
 induction f with
 |zero=>
  intro k d hk hi;have e:d=dO:=yj hi.snd (hi.opt h (by omega)) hs ho;show qji W sl N g es _ _ _ _=some ();unfold qji qjg;rw[qt1 (by simp only[];omega)];exact tf.2 (by rw[e])
 |succ f ih=>
  intro k d hk hi;show qji W sl N g es _ _ _ _=some ();unfold qji qjg;rw[qyw (by simp only[];omega)];refine qvn fun l hl=> ?_
  obtain⟨es',rfl,hp⟩:=q92 hl;obtain⟨h1,h2,h3⟩:=hi.pass h (by omega) hp ((N:Int)+1) (k:Int) (es.map j5) (es.map j5) (g:Int) (N:Int);refine⟨_,h1,?_⟩;rw[quy];cases hb:(Go.Proofs.Ytokeielgplbdeaa.pass w sl (x0 es') (false,d)).1 with
  |false=>
   obtain⟨e2,e3⟩:=h3 hb;simp only[Bool.not_false,cond_true];refine tf.2 ?_;rw[e2,yj hi.snd e3 hs ho]
  |true=>
   simp only[Bool.not_true,cond_false];rw[qn7 (by omega) (by omega),aq];exact tf.2 (ih (k+1) _ (by omega) h2)
theorem q8i(h:BG W w N TT g sl es){dO:pd}(hs:Snd (fun e=>e∈x0 es) w g dO)(ho:Opt (fun e=>e∈x0 es) w g sl dO)(r' :List ae):∀(n k:Nat) (d:pd),k≤N+1→BI w g sl es k d→
  ndN (qji W sl N g es) (fun e=>some e) (fun r=>some r) r' n ((k:Int),m9 N d)→r' =m9 N dO:=by
 have hN:=h.n100;intro n
 induction n with
 |zero=>intro k d _ _ hn;exact hn.elim
 |succ n ih=>
  intro k d hk hi hn;have hn:qji W sl N g es ((k:Int),m9 N d) (fun s' =>tell (ndN (qji W sl N g es) (fun e=>some e) (fun r=>some r) r' n s')) (fun e=>tell (some e=some r')) (fun x=>tell (some x=some r'))=some ():=hn;unfold qji qjg at hn;by_cases hkN:k<N+1
  ·rw[qyw (by simp only[];omega)]at hn;obtain⟨y,hy,hlk⟩:=qtg hn _ (List.Perm.refl _);obtain⟨h1,h2,h3⟩:=hi.pass h (by omega) (List.Perm.refl es) ((N:Int)+1) (k:Int) (es.map j5) (es.map j5) (g:Int) (N:Int);rw[h1]at hy;cases hy;rw[quy]at hlk;cases hb:(Go.Proofs.Ytokeielgplbdeaa.pass w sl (x0 es) (false,d)).1 with
   |false=>
    rw[hb]at hlk;simp only[Bool.not_false,cond_true]at hlk;obtain⟨e2,e3⟩:=h3 hb;have:=tf.1 hlk;rw[e2,yj hi.snd e3 hs ho]at this;exact(Option.some.inj this).symm
   |true=>
    rw[hb]at hlk;simp only[Bool.not_true,cond_false]at hlk;rw[qn7 (by omega) (by omega),aq]at hlk;exact ih (k+1) _ (by omega) h2 (tf.1 hlk)
  ·rw[qt1 (by simp only[];omega)]at hn;have:=tf.1 hn;have e:d=dO:=yj hi.snd (hi.opt h (by omega)) hs ho;simp only[e]at this;exact(Option.some.inj this).symm
theorem q8g(h:BG W w N TT g sl es):∃d,qyu (es.map j5) (g:Int) (N:Int) W sl=some (m9 N d)∧Snd (fun e=>e∈x0 es) w g d∧Opt (fun e=>e∈x0 es) w g sl d:=by
 have hN:=h.n100;have hg:=h.gl;obtain⟨hs,ha⟩:=q1f (E:=fun e=>e∈x0 es) (w:=w) (g:=g) (sl:=sl) (L:=x0 es) (fun e=>Iff.rfl) N;have ho:=qtx (fun e he=>(qo7 h.good e he).a) h.cyc (Nat.le_refl N) ha;generalize q80 w sl g (x0 es) N=dO at hs ha ho;have hi0:BI w g sl es 0 (qjl g):=⟨qo0,qoz,q1e.mono (Nat.zero_le _)⟩;have h1:=q8h h hs ho (N+1) 0 (qjl g) (by omega) hi0;have h2:=jf3 (s:=(((0:Nat):Int),m9 N (qjl g))) h1 fun r' n' hn=>q8i h hs ho r' n' 0 (qjl g) (by omega) hi0 hn
 refine⟨dO,?_,hs,ho⟩;have e0:List.replicate N (ae.z:ae)=m9 N fun _=>none:=qg0 N _
 have e1:(List.replicate N (ae.z:ae)).set g (true,0,0,())=m9 N (qjl g):=by
  rw[e0];refine(qxp N (fun _=>none) g (0,0)).trans ?_;congr 1
 have hl:(List.replicate N (ae.z:ae)).length=N:=List.length_replicate;have hz:(List.replicate N (ae.z:ae)).getD g ae.z=ae.z:=by
  rw[e0];exact vg hg _
 have hz1:(ae.z).2.1=(0:Int):=rfl;have hz2:(ae.z).2.2.1=(0:Int):=rfl;unfold qyu;rw[Int.toNat_natCast];simp(disch:=omega)only[hl,hz,hz1,hz2,e1,rs];exact h2
end
end Go.Proofs.Ytokeielgplbdeaa
