/-
  Predict: best, whatever the order of the map.
-/
import Derived.Test.YtokeielgplbdeaaZ6D3
set_option linter.all false
namespace Go.Proofs.Ytokeielgplbdeaa
open Go.K Go.M
abbrev Ens:Type:=List (Nat×List (Nat×Nat))
def qqe(N TT:Nat)(es:Ens):Prop:=∀p∈es,p.1<N∧∀e∈edA p.1 p.2,GdE N TT e
theorem qb3(p:Nat×List (Nat×Nat))(es:Ens):ym (p::es)=edA p.1 p.2++ym es:=rfl
theorem qqy{N TT:Nat}{es:Ens}(h:qqe N TT es):∀e∈ym es,GdE N TT e:=fun e he=>by
 obtain⟨p,hp,he⟩:=List.mem_flatMap.1 he;exact(h p hp).2 e he
theorem q2z{W:Int→Option Int}{w:Nat→Int}{N TT:Nat}(hW:Wt W w TT)(sl:Bool)(hN:N≤100000)(v24 v25:Int)(v28:List (Int×List ab))(g30:List (Int×List ab))(g31 g32:Int):
  ∀(es:Ens) (B:Nat) (b0:Bool) (d:pz),qqe N TT es→Bd B d→B+(ym es).length≤1000000→
  qvp W sl v24 v25 v28 g30 g31 g32 (es.map j3) (b0,ng N d)=some (.inl ((pass w sl (ym es) (b0,d)).1,ng N (pass w sl (ym es) (b0,d)).2))
 |[],B,b0,d,_,_,_=>rfl
 |p::es,B,b0,d,hg,hd,hB=>by
  rw[qb3,List.length_append]at hB;have hp:=hg p List.mem_cons_self;have hlA:(edA p.1 p.2).length=p.2.length:=by unfold edA;rw[List.length_map]
  have h0:=jad hW sl p.1 hp.1 hN p.2 hp.2 b0 hd (by omega) v24 v25 v28 g30 g31 g32;have hd' :=Bd.pass (w:=w) (sl:=sl) (edA p.1 p.2) (s:=(b0,d)) hd fun e he=>hW.b _ (hp.2 e he).t
  have ih:=q2z hW sl hN v24 v25 v28 g30 g31 g32 es (B+(edA p.1 p.2).length) (pass w sl (edA p.1 p.2) (b0,d)).1 (pass w sl (edA p.1 p.2) (b0,d)).2 (fun q hq=>hg q (List.mem_cons_of_mem _ hq)) hd' (by omega);have e1:pass w sl (ym (p::es)) (b0,d)=pass w sl (ym es) (pass w sl (edA p.1 p.2) (b0,d)):=by
   rw[qb3];unfold pass;rw[List.foldl_append]
  rw[e1];have e2:qvq W sl v24 v25 v28 g30 g31 g32 b0 (ng N d) (j3 p) (fun a' =>some (Sum.inl a' :(Bool×List ae)⊕List ae)) (fun r=>some (.inr r))=some (.inl ((pass w sl (edA p.1 p.2) (b0,d)).1,ng N (pass w sl (edA p.1 p.2) (b0,d)).2)):=by
   unfold qvq j3;simp only[];rw[h0];rfl
  unfold qvp;rw[List.map_cons];simp only[wn,e2];exact ih
def q06(x:Int×List ab):Nat×List (Nat×Nat):=(x.1.toNat,x.2.map fun a=>(a.1.toNat,a.2.1.toNat))
theorem q3a(p:Nat×List (Nat×Nat)):q06 (j3 p)=p:=by
 obtain⟨i,A⟩:=p;unfold q06 j3;simp only[Int.toNat_natCast,List.map_map];congr 1;have:((fun a:ab=>(a.1.toNat,a.2.1.toNat))∘bu)=id:=by
  funext q;obtain⟨a,b⟩:=q;simp[bu]
 rw[this,List.map_id]
theorem jbz{es:Ens}{l:List (Int×List ab)}(h:l.Perm (es.map j3)):∃es' :Ens,l=es'.map j3∧es'.Perm es:=by
 refine⟨l.map q06,?_,?_⟩
 ·rw[List.map_map];have:l.map (j3∘q06)=l.map id:=List.map_congr_left fun x hx=>by
   obtain⟨p,hp,rfl⟩:=List.mem_map.1 (h.mem_iff.1 hx);show j3 (q06 (j3 p))=j3 p;rw[q3a]
  rw[this,List.map_id]
 ·have:=h.map q06;rw[List.map_map]at this;have e:es.map (q06∘j3)=es.map id:=List.map_congr_left fun p _=>q3a p
  rw[e,List.map_id]at this;exact this
theorem q7p{es es' :Ens}(h:es'.Perm es):(∀e,e∈ym es' ↔e∈ym es)∧(ym es').length=(ym es).length:=by
 have hp:(ym es').Perm (ym es):=h.flatMap_right _;exact⟨fun e=>hp.mem_iff,hp.length_eq⟩
def qk3(g:Nat):pz:=fun i=>if i=g then some (0,0)else none
section
variable {w : Nat → Int} {g : Nat} {sl : Bool} {E : Eg → Prop}
theorem qqr:Snd E w g (qk3 g):=fun i v h=>by
 unfold qk3 at h;by_cases hi:i=g
 ·rw[if_pos hi]at h;cases h;rw[hi];exact .nil
 ·rw[if_neg hi]at h;cases h
theorem qqq:Atl E w g sl 0 (qk3 g):=fun i v h hv=>by
 cases h with
 |nil=>exact⟨(0,0),if_pos rfl,qgu _⟩
 | @cons _ b t u he hw=>
  have:=hw.pos;simp only[yj]at hv;omega
theorem q3d:Bd 0 (qk3 g):=fun i v h=>by
 unfold qk3 at h;by_cases hi:i=g
 ·rw[if_pos hi]at h;cases h;simp
 ·rw[if_neg hi]at h;cases h
def jaz(w:Nat→Int)(sl:Bool)(g:Nat)(L:List Eg):Nat→pz
 |0=>qk3 g
 |k+1=>(pass w sl L (false,jaz w sl g L k)).2
theorem q3e{L:List Eg}(hL:∀e,E e↔e∈L):∀k,Snd E w g (jaz w sl g L k)∧Atl E w g sl k (jaz w sl g L k)
 |0=>⟨qqr,qqq⟩
 |k+1=>by
  obtain⟨h1,h2⟩:=q3e hL k;exact⟨ql5 L _ (fun e he=> .inl ((hL e).2 he)) h1,qr3 (fun e he=>(hL e).1 he) h2⟩
end
section
variable {W : Int → Option Int} {w : Nat → Int} {N TT g : Nat} {sl : Bool} {es : Ens}
structure BG (W : Int → Option Int) (w : Nat → Int) (N TT g : Nat) (sl : Bool) (es : Ens) : Prop where
 wt : Wt W w TT
 good : qqe N TT es
 len : (ym es).length ≤ 2000
 n100 : N ≤ 100
 gl : g < N
 cyc : qgf (fun e => e ∈ ym es) w sl g
noncomputable abbrev qk0(W:Int→Option Int)(sl:Bool)(N g:Nat)(es:Ens){Q:Type}(a:Int×List ae)(nx:Int×List ae→Option Q)(dn:List ae→Option Q)(rt:List ae→Option Q):Option Q:=
 qky (R:=Q) W sl ((N:Int)+1) (es.map j3) (g:Int) (N:Int) a.1 a.2 nx dn rt
structure BI (w : Nat → Int) (g : Nat) (sl : Bool) (es : Ens) (k : Nat) (d : pz) : Prop where
 snd : Snd (fun e => e ∈ ym es) w g d
 atl : Atl (fun e => e ∈ ym es) w g sl k d
 bd : Bd (k * 2000) d
theorem BI.opt(h:BG W w N TT g sl es){k:Nat}{d:pz}(hi:BI w g sl es k d)(hk:N≤k):Opt (fun e=>e∈ym es) w g sl d:=qvn (fun e he=>(qqy h.good e he).a) h.cyc hk hi.atl
theorem BI.pass(h:BG W w N TT g sl es){k:Nat}{d:pz}(hi:BI w g sl es k d)(hk:k≤N){es' :Ens}(hp:es'.Perm es)(v24 v25:Int)(v28 g30:List (Int×List ab))(g31 g32:Int):
  qvp W sl v24 v25 v28 g30 g31 g32 (es'.map j3) (false,ng N d)=some (.inl ((Go.Proofs.Ytokeielgplbdeaa.pass w sl (ym es') (false,d)).1,ng N (Go.Proofs.Ytokeielgplbdeaa.pass w sl (ym es') (false,d)).2))∧
  BI w g sl es (k+1) (Go.Proofs.Ytokeielgplbdeaa.pass w sl (ym es') (false,d)).2∧
  ((Go.Proofs.Ytokeielgplbdeaa.pass w sl (ym es') (false,d)).1=false→(Go.Proofs.Ytokeielgplbdeaa.pass w sl (ym es') (false,d)).2=d∧Opt (fun e=>e∈ym es) w g sl d):=by
 obtain⟨h1,h2⟩:=q7p hp;have hg' :qqe N TT es' :=fun p hp' =>h.good p (hp.mem_iff.1 hp')
 have hN:=h.n100;have hlen:=h.len;have hb:=Bd.pass (w:=w) (sl:=sl) (ym es') (s:=(false,d)) hi.bd fun e he=>h.wt.b _ (qqy hg' e he).t
 refine⟨q2z h.wt sl (by omega) v24 v25 v28 g30 g31 g32 es' (k*2000) false d hg' hi.bd (by omega),⟨ql5 _ _ (fun e he=> .inl ((h1 e).1 he)) hi.snd,qr3 (fun e he=>(h1 e).2 he) hi.atl,hb.mono (by omega)⟩,fun hf=> ?_⟩;obtain⟨_,e2,e3⟩:=qni _ _ hf;refine⟨e2,qzu (L:=ym es') (fun e he=>(h1 e).2 he) (fun i v hw hv=>hi.atl i v hw (by omega)) e3⟩
theorem jaf(h:BG W w N TT g sl es){dO:pz}(hs:Snd (fun e=>e∈ym es) w g dO)(ho:Opt (fun e=>e∈ym es) w g sl dO):∀(f k:Nat) (d:pz),k+f=N+1→BI w g sl es k d→
  ndN (qk0 W sl N g es) (fun e=>some e) (fun r=>some r) (ng N dO) (f+1) ((k:Int),ng N d):=by
 have hN:=h.n100;intro f
 induction f with
 |zero=>
  intro k d hk hi;have e:d=dO:=y9 hi.snd (hi.opt h (by omega)) hs ho;show qk0 W sl N g es _ _ _ _=some ();unfold qk0 qky;rw[qvr (by simp only[];omega)];exact t7.2 (by rw[e])
 |succ f ih=>
  intro k d hk hi;show qk0 W sl N g es _ _ _ _=some ();unfold qk0 qky;rw[q0v (by simp only[];omega)];refine qxi fun l hl=> ?_
  obtain⟨es',rfl,hp⟩:=jbz hl;obtain⟨h1,h2,h3⟩:=hi.pass h (by omega) hp ((N:Int)+1) (k:Int) (es.map j3) (es.map j3) (g:Int) (N:Int);refine⟨_,h1,?_⟩;rw[qwp];cases hb:(Go.Proofs.Ytokeielgplbdeaa.pass w sl (ym es') (false,d)).1 with
  |false=>
   obtain⟨e2,e3⟩:=h3 hb;simp only[Bool.not_false,cond_true];refine t7.2 ?_;rw[e2,y9 hi.snd e3 hs ho]
  |true=>
   simp only[Bool.not_true,cond_false];rw[qpx (by omega) (by omega),aj];exact t7.2 (ih (k+1) _ (by omega) h2)
theorem jag(h:BG W w N TT g sl es){dO:pz}(hs:Snd (fun e=>e∈ym es) w g dO)(ho:Opt (fun e=>e∈ym es) w g sl dO)(r' :List ae):∀(n k:Nat) (d:pz),k≤N+1→BI w g sl es k d→
  ndN (qk0 W sl N g es) (fun e=>some e) (fun r=>some r) r' n ((k:Int),ng N d)→r' =ng N dO:=by
 have hN:=h.n100;intro n
 induction n with
 |zero=>intro k d _ _ hn;exact hn.elim
 |succ n ih=>
  intro k d hk hi hn;have hn:qk0 W sl N g es ((k:Int),ng N d) (fun s' =>tell (ndN (qk0 W sl N g es) (fun e=>some e) (fun r=>some r) r' n s')) (fun e=>tell (some e=some r')) (fun x=>tell (some x=some r'))=some ():=hn;unfold qk0 qky at hn;by_cases hkN:k<N+1
  ·rw[q0v (by simp only[];omega)]at hn;obtain⟨y,hy,hlk⟩:=qu5 hn _ (List.Perm.refl _);obtain⟨h1,h2,h3⟩:=hi.pass h (by omega) (List.Perm.refl es) ((N:Int)+1) (k:Int) (es.map j3) (es.map j3) (g:Int) (N:Int);rw[h1]at hy;cases hy;rw[qwp]at hlk;cases hb:(Go.Proofs.Ytokeielgplbdeaa.pass w sl (ym es) (false,d)).1 with
   |false=>
    rw[hb]at hlk;simp only[Bool.not_false,cond_true]at hlk;obtain⟨e2,e3⟩:=h3 hb;have:=t7.1 hlk;rw[e2,y9 hi.snd e3 hs ho]at this;exact(Option.some.inj this).symm
   |true=>
    rw[hb]at hlk;simp only[Bool.not_true,cond_false]at hlk;rw[qpx (by omega) (by omega),aj]at hlk;exact ih (k+1) _ (by omega) h2 (t7.1 hlk)
  ·rw[qvr (by simp only[];omega)]at hn;have:=t7.1 hn;have e:d=dO:=y9 hi.snd (hi.opt h (by omega)) hs ho;simp only[e]at this;exact(Option.some.inj this).symm
theorem jae(h:BG W w N TT g sl es):∃d,q0t (es.map j3) (g:Int) (N:Int) W sl=some (ng N d)∧Snd (fun e=>e∈ym es) w g d∧Opt (fun e=>e∈ym es) w g sl d:=by
 have hN:=h.n100;have hg:=h.gl;obtain⟨hs,ha⟩:=q3e (E:=fun e=>e∈ym es) (w:=w) (g:=g) (sl:=sl) (L:=ym es) (fun e=>Iff.rfl) N;have ho:=qvn (fun e he=>(qqy h.good e he).a) h.cyc (Nat.le_refl N) ha;generalize jaz w sl g (ym es) N=dO at hs ha ho;have hi0:BI w g sl es 0 (qk3 g):=⟨qqr,qqq,q3d.mono (Nat.zero_le _)⟩;have h1:=jaf h hs ho (N+1) 0 (qk3 g) (by omega) hi0;have h2:=jhz (s:=(((0:Nat):Int),ng N (qk3 g))) h1 fun r' n' hn=>jag h hs ho r' n' 0 (qk3 g) (by omega) hi0 hn
 refine⟨dO,?_,hs,ho⟩;have e0:List.replicate N (ae.z:ae)=ng N fun _=>none:=qid N _
 have e1:(List.replicate N (ae.z:ae)).set g (true,0,0,())=ng N (qk3 g):=by
  rw[e0];refine(qzk N (fun _=>none) g (0,0)).trans ?_;congr 1
 have hl:(List.replicate N (ae.z:ae)).length=N:=List.length_replicate;have hz:(List.replicate N (ae.z:ae)).getD g ae.z=ae.z:=by
  rw[e0];exact v7 hg _
 have hz1:(ae.z).2.1=(0:Int):=rfl;have hz2:(ae.z).2.2.1=(0:Int):=rfl;unfold q0t;rw[Int.toNat_natCast];simp(disch:=omega)only[hl,hz,hz1,hz2,e1,rs];exact h2
end
end Go.Proofs.Ytokeielgplbdeaa
