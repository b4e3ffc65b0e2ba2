/-
  Predict: best, whatever the order of the map.
-/
import Derived.Test.YtokeielgplbdeaaZ4D3
set_option linter.all false
namespace Go.Proofs.Ytokeielgplbdeaa
open Go.K Go.M
abbrev Ens:Type:=List (Nat×List (Nat×Nat))
def qpv(N TT:Nat)(es:Ens):Prop:=∀p∈es,p.1<N∧∀e∈edA p.1 p.2,GdE N TT e
theorem qb5(p:Nat×List (Nat×Nat))(es:Ens):yk (p::es)=edA p.1 p.2++yk es:=rfl
theorem qqd{N TT:Nat}{es:Ens}(h:qpv N TT es):∀e∈yk es,GdE N TT e:=fun e he=>by
 obtain⟨p,hp,he⟩:=List.mem_flatMap.1 he;exact(h p hp).2 e he
theorem q15{W:Int→Option Int}{w:Nat→Int}{N TT:Nat}(hW:Wt W w TT)(sl:Bool)(hN:N≤100000)(v24 v25:Int)(v28:List (Int×List ab))(g30:List (Int×List ab))(g31 g32:Int):
  ∀(es:Ens) (B:Nat) (b0:Bool) (d:pp),qpv N TT es→Bd B d→B+(yk es).length≤1000000→
  qu0 W sl v24 v25 v28 g30 g31 g32 (es.map j6) (b0,nh N d)=some (.inl ((pass w sl (yk es) (b0,d)).1,nh N (pass w sl (yk es) (b0,d)).2))
 |[],B,b0,d,_,_,_=>rfl
 |p::es,B,b0,d,hg,hd,hB=>by
  rw[qb5,List.length_append]at hB;have hp:=hg p List.mem_cons_self;have hlA:(edA p.1 p.2).length=p.2.length:=by unfold edA;rw[List.length_map]
  have h0:=q9m hW sl p.1 hp.1 hN p.2 hp.2 b0 hd (by omega) v24 v25 v28 g30 g31 g32;have hd' :=Bd.pass (w:=w) (sl:=sl) (edA p.1 p.2) (s:=(b0,d)) hd fun e he=>hW.b _ (hp.2 e he).t
  have ih:=q15 hW sl hN v24 v25 v28 g30 g31 g32 es (B+(edA p.1 p.2).length) (pass w sl (edA p.1 p.2) (b0,d)).1 (pass w sl (edA p.1 p.2) (b0,d)).2 (fun q hq=>hg q (List.mem_cons_of_mem _ hq)) hd' (by omega);have e1:pass w sl (yk (p::es)) (b0,d)=pass w sl (yk es) (pass w sl (edA p.1 p.2) (b0,d)):=by
   rw[qb5];unfold pass;rw[List.foldl_append]
  rw[e1];have e2:qu1 W sl v24 v25 v28 g30 g31 g32 b0 (nh N d) (j6 p) (fun a' =>some (Sum.inl a' :(Bool×List ae)⊕List ae)) (fun r=>some (.inr r))=some (.inl ((pass w sl (edA p.1 p.2) (b0,d)).1,nh N (pass w sl (edA p.1 p.2) (b0,d)).2)):=by
   unfold qu1 j6;simp only[];rw[h0];rfl
  unfold qu0;rw[List.map_cons];simp only[x8,e2];exact ih
def q0b(x:Int×List ab):Nat×List (Nat×Nat):=(x.1.toNat,x.2.map fun a=>(a.1.toNat,a.2.1.toNat))
theorem q2h(p:Nat×List (Nat×Nat)):q0b (j6 p)=p:=by
 obtain⟨i,A⟩:=p;unfold q0b j6;simp only[Int.toNat_natCast,List.map_map];congr 1;have:((fun a:ab=>(a.1.toNat,a.2.1.toNat))∘bw)=id:=by
  funext q;obtain⟨a,b⟩:=q;simp[bw]
 rw[this,List.map_id]
theorem ja7{es:Ens}{l:List (Int×List ab)}(h:l.Perm (es.map j6)):∃es' :Ens,l=es'.map j6∧es'.Perm es:=by
 refine⟨l.map q0b,?_,?_⟩
 ·rw[List.map_map];have:l.map (j6∘q0b)=l.map id:=List.map_congr_left fun x hx=>by
   obtain⟨p,hp,rfl⟩:=List.mem_map.1 (h.mem_iff.1 hx);show j6 (q0b (j6 p))=j6 p;rw[q2h]
  rw[this,List.map_id]
 ·have:=h.map q0b;rw[List.map_map]at this;have e:es.map (q0b∘j6)=es.map id:=List.map_congr_left fun p _=>q2h p
  rw[e,List.map_id]at this;exact this
theorem q6x{es es' :Ens}(h:es'.Perm es):(∀e,e∈yk es' ↔e∈yk es)∧(yk es').length=(yk es).length:=by
 have hp:(yk es').Perm (yk es):=h.flatMap_right _;exact⟨fun e=>hp.mem_iff,hp.length_eq⟩
def qki(g:Nat):pp:=fun i=>if i=g then some (0,0)else none
section
variable {w : Nat → Int} {g : Nat} {sl : Bool} {E : Eg → Prop}
theorem qp7:Snd E w g (qki g):=fun i v h=>by
 unfold qki at h;by_cases hi:i=g
 ·rw[if_pos hi]at h;cases h;rw[hi];exact .nil
 ·rw[if_neg hi]at h;cases h
theorem qp6:Atl E w g sl 0 (qki g):=fun i v h hv=>by
 cases h with
 |nil=>exact⟨(0,0),if_pos rfl,qgl _⟩
 | @cons _ b t u he hw=>
  have:=hw.pos;simp only[yh]at hv;omega
theorem q2k:Bd 0 (qki g):=fun i v h=>by
 unfold qki at h;by_cases hi:i=g
 ·rw[if_pos hi]at h;cases h;simp
 ·rw[if_neg hi]at h;cases h
def q98(w:Nat→Int)(sl:Bool)(g:Nat)(L:List Eg):Nat→pp
 |0=>qki g
 |k+1=>(pass w sl L (false,q98 w sl g L k)).2
theorem q2l{L:List Eg}(hL:∀e,E e↔e∈L):∀k,Snd E w g (q98 w sl g L k)∧Atl E w g sl k (q98 w sl g L k)
 |0=>⟨qp7,qp6⟩
 |k+1=>by
  obtain⟨h1,h2⟩:=q2l hL k;exact⟨qlj L _ (fun e he=> .inl ((hL e).2 he)) h1,qrg (fun e he=>(hL e).1 he) h2⟩
end
section
variable {W : Int → Option Int} {w : Nat → Int} {N TT g : Nat} {sl : Bool} {es : Ens}
structure BG (W : Int → Option Int) (w : Nat → Int) (N TT g : Nat) (sl : Bool) (es : Ens) : Prop where
 wt : Wt W w TT
 good : qpv N TT es
 len : (yk es).length ≤ 2000
 n100 : N ≤ 100
 gl : g < N
 cyc : qga (fun e => e ∈ yk es) w sl g
noncomputable abbrev qkf(W:Int→Option Int)(sl:Bool)(N g:Nat)(es:Ens){Q:Type}(a:Int×List ae)(nx:Int×List ae→Option Q)(dn:List ae→Option Q)(rt:List ae→Option Q):Option Q:=
 qkd (R:=Q) W sl ((N:Int)+1) (es.map j6) (g:Int) (N:Int) a.1 a.2 nx dn rt
structure BI (w : Nat → Int) (g : Nat) (sl : Bool) (es : Ens) (k : Nat) (d : pp) : Prop where
 snd : Snd (fun e => e ∈ yk es) w g d
 atl : Atl (fun e => e ∈ yk es) w g sl k d
 bd : Bd (k * 2000) d
theorem BI.opt(h:BG W w N TT g sl es){k:Nat}{d:pp}(hi:BI w g sl es k d)(hk:N≤k):Opt (fun e=>e∈yk es) w g sl d:=quy (fun e he=>(qqd h.good e he).a) h.cyc hk hi.atl
theorem BI.pass(h:BG W w N TT g sl es){k:Nat}{d:pp}(hi:BI w g sl es k d)(hk:k≤N){es' :Ens}(hp:es'.Perm es)(v24 v25:Int)(v28 g30:List (Int×List ab))(g31 g32:Int):
  qu0 W sl v24 v25 v28 g30 g31 g32 (es'.map j6) (false,nh N d)=some (.inl ((Go.Proofs.Ytokeielgplbdeaa.pass w sl (yk es') (false,d)).1,nh N (Go.Proofs.Ytokeielgplbdeaa.pass w sl (yk es') (false,d)).2))∧
  BI w g sl es (k+1) (Go.Proofs.Ytokeielgplbdeaa.pass w sl (yk es') (false,d)).2∧
  ((Go.Proofs.Ytokeielgplbdeaa.pass w sl (yk es') (false,d)).1=false→(Go.Proofs.Ytokeielgplbdeaa.pass w sl (yk es') (false,d)).2=d∧Opt (fun e=>e∈yk es) w g sl d):=by
 obtain⟨h1,h2⟩:=q6x hp;have hg' :qpv N TT es' :=fun p hp' =>h.good p (hp.mem_iff.1 hp')
 have hN:=h.n100;have hlen:=h.len;have hb:=Bd.pass (w:=w) (sl:=sl) (yk es') (s:=(false,d)) hi.bd fun e he=>h.wt.b _ (qqd hg' e he).t
 refine⟨q15 h.wt sl (by omega) v24 v25 v28 g30 g31 g32 es' (k*2000) false d hg' hi.bd (by omega),⟨qlj _ _ (fun e he=> .inl ((h1 e).1 he)) hi.snd,qrg (fun e he=>(h1 e).2 he) hi.atl,hb.mono (by omega)⟩,fun hf=> ?_⟩;obtain⟨_,e2,e3⟩:=qm0 _ _ hf;refine⟨e2,qy2 (L:=yk es') (fun e he=>(h1 e).2 he) (fun i v hw hv=>hi.atl i v hw (by omega)) e3⟩
theorem q9o(h:BG W w N TT g sl es){dO:pp}(hs:Snd (fun e=>e∈yk es) w g dO)(ho:Opt (fun e=>e∈yk es) w g sl dO):∀(f k:Nat) (d:pp),k+f=N+1→BI w g sl es k d→
  ndN (qkf W sl N g es) (fun e=>some e) (fun r=>some r) (nh N dO) (f+1) ((k:Int),nh N d):=by
 have hN:=h.n100;intro f
 induction f with
 |zero=>
  intro k d hk hi;have e:d=dO:=y9 hi.snd (hi.opt h (by omega)) hs ho;show qkf W sl N g es _ _ _ _=some ();unfold qkf qkd;rw[qu2 (by simp only[];omega)];exact tw.2 (by rw[e])
 |succ f ih=>
  intro k d hk hi;show qkf W sl N g es _ _ _ _=some ();unfold qkf qkd;rw[qz0 (by simp only[];omega)];refine qwp fun l hl=> ?_
  obtain⟨es',rfl,hp⟩:=ja7 hl;obtain⟨h1,h2,h3⟩:=hi.pass h (by omega) hp ((N:Int)+1) (k:Int) (es.map j6) (es.map j6) (g:Int) (N:Int);refine⟨_,h1,?_⟩;rw[qv1];cases hb:(Go.Proofs.Ytokeielgplbdeaa.pass w sl (yk es') (false,d)).1 with
  |false=>
   obtain⟨e2,e3⟩:=h3 hb;simp only[Bool.not_false,cond_true];refine tw.2 ?_;rw[e2,y9 hi.snd e3 hs ho]
  |true=>
   simp only[Bool.not_true,cond_false];rw[qpb (by omega) (by omega),aj];exact tw.2 (ih (k+1) _ (by omega) h2)
theorem q9p(h:BG W w N TT g sl es){dO:pp}(hs:Snd (fun e=>e∈yk es) w g dO)(ho:Opt (fun e=>e∈yk es) w g sl dO)(r' :List ae):∀(n k:Nat) (d:pp),k≤N+1→BI w g sl es k d→
  ndN (qkf W sl N g es) (fun e=>some e) (fun r=>some r) r' n ((k:Int),nh N d)→r' =nh N dO:=by
 have hN:=h.n100;intro n
 induction n with
 |zero=>intro k d _ _ hn;exact hn.elim
 |succ n ih=>
  intro k d hk hi hn;have hn:qkf W sl N g es ((k:Int),nh N d) (fun s' =>tell (ndN (qkf W sl N g es) (fun e=>some e) (fun r=>some r) r' n s')) (fun e=>tell (some e=some r')) (fun x=>tell (some x=some r'))=some ():=hn;unfold qkf qkd at hn;by_cases hkN:k<N+1
  ·rw[qz0 (by simp only[];omega)]at hn;obtain⟨y,hy,hlk⟩:=quf hn _ (List.Perm.refl _);obtain⟨h1,h2,h3⟩:=hi.pass h (by omega) (List.Perm.refl es) ((N:Int)+1) (k:Int) (es.map j6) (es.map j6) (g:Int) (N:Int);rw[h1]at hy;cases hy;rw[qv1]at hlk;cases hb:(Go.Proofs.Ytokeielgplbdeaa.pass w sl (yk es) (false,d)).1 with
   |false=>
    rw[hb]at hlk;simp only[Bool.not_false,cond_true]at hlk;obtain⟨e2,e3⟩:=h3 hb;have:=tw.1 hlk;rw[e2,y9 hi.snd e3 hs ho]at this;exact(Option.some.inj this).symm
   |true=>
    rw[hb]at hlk;simp only[Bool.not_true,cond_false]at hlk;rw[qpb (by omega) (by omega),aj]at hlk;exact ih (k+1) _ (by omega) h2 (tw.1 hlk)
  ·rw[qu2 (by simp only[];omega)]at hn;have:=tw.1 hn;have e:d=dO:=y9 hi.snd (hi.opt h (by omega)) hs ho;simp only[e]at this;exact(Option.some.inj this).symm
theorem q9n(h:BG W w N TT g sl es):∃d,qzy (es.map j6) (g:Int) (N:Int) W sl=some (nh N d)∧Snd (fun e=>e∈yk es) w g d∧Opt (fun e=>e∈yk es) w g sl d:=by
 have hN:=h.n100;have hg:=h.gl;obtain⟨hs,ha⟩:=q2l (E:=fun e=>e∈yk es) (w:=w) (g:=g) (sl:=sl) (L:=yk es) (fun e=>Iff.rfl) N;have ho:=quy (fun e he=>(qqd h.good e he).a) h.cyc (Nat.le_refl N) ha;generalize q98 w sl g (yk es) N=dO at hs ha ho;have hi0:BI w g sl es 0 (qki g):=⟨qp7,qp6,q2k.mono (Nat.zero_le _)⟩;have h1:=q9o h hs ho (N+1) 0 (qki g) (by omega) hi0;have h2:=jhd (s:=(((0:Nat):Int),nh N (qki g))) h1 fun r' n' hn=>q9p h hs ho r' n' 0 (qki g) (by omega) hi0 hn
 refine⟨dO,?_,hs,ho⟩;have e0:List.replicate N (ae.z:ae)=nh N fun _=>none:=qex N _
 have e1:(List.replicate N (ae.z:ae)).set g (true,0,0,())=nh N (qki g):=by
  rw[e0];refine(qyr N (fun _=>none) g (0,0)).trans ?_;congr 1
 have hl:(List.replicate N (ae.z:ae)).length=N:=List.length_replicate;have hz:(List.replicate N (ae.z:ae)).getD g ae.z=ae.z:=by
  rw[e0];exact v6 hg _
 have hz1:(ae.z).2.1=(0:Int):=rfl;have hz2:(ae.z).2.2.1=(0:Int):=rfl;unfold qzy;rw[Int.toNat_natCast];simp(disch:=omega)only[hl,hz,hz1,hz2,e1,rs];exact h2
end
end Go.Proofs.Ytokeielgplbdeaa
