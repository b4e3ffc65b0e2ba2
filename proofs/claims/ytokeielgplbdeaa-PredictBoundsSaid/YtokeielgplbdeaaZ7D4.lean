/-
  Predict: best, whatever the order of the map.
-/
import Derived.Test.YtokeielgplbdeaaZ7D3
set_option linter.all false
namespace Go.Proofs.Ytokeielgplbdeaa
open Go.K Go.M
abbrev Ens:Type:=List (Nat×List (Nat×Nat))
def qr0(N TT:Nat)(es:Ens):Prop:=∀p∈es,p.1<N∧∀e∈edA p.1 p.2,GdE N TT e
theorem qbx(p:Nat×List (Nat×Nat))(es:Ens):yd (p::es)=edA p.1 p.2++yd es:=rfl
theorem qsl{N TT:Nat}{es:Ens}(h:qr0 N TT es):∀e∈yd es,GdE N TT e:=fun e he=>by
 obtain⟨p,hp,he⟩:=List.mem_flatMap.1 he;exact(h p hp).2 e he
theorem q5y{W:Int→Option Int}{w:Nat→Int}{N TT:Nat}(hW:Wt W w TT)(sl:Bool)(hN:N≤100000)(v24 v25:Int)(v28:List (Int×List ab))(g30:List (Int×List ab))(g31 g32:Int):
  ∀(es:Ens) (B:Nat) (b0:Bool) (d:p8),qr0 N TT es→Bd B d→B+(yd es).length≤1000000→
  qyb W sl v24 v25 v28 g30 g31 g32 (es.map j1) (b0,m8 N d)=some (.inl ((pass w sl (yd es) (b0,d)).1,m8 N (pass w sl (yd es) (b0,d)).2))
 |[],B,b0,d,_,_,_=>rfl
 |p::es,B,b0,d,hg,hd,hB=>by
  rw[qbx,List.length_append]at hB;have hp:=hg p List.mem_cons_self;have hlA:(edA p.1 p.2).length=p.2.length:=by unfold edA;rw[List.length_map]
  have h0:=jde hW sl p.1 hp.1 hN p.2 hp.2 b0 hd (by omega) v24 v25 v28 g30 g31 g32;have hd' :=Bd.pass (w:=w) (sl:=sl) (edA p.1 p.2) (s:=(b0,d)) hd fun e he=>hW.b _ (hp.2 e he).t
  have ih:=q5y hW sl hN v24 v25 v28 g30 g31 g32 es (B+(edA p.1 p.2).length) (pass w sl (edA p.1 p.2) (b0,d)).1 (pass w sl (edA p.1 p.2) (b0,d)).2 (fun q hq=>hg q (List.mem_cons_of_mem _ hq)) hd' (by omega);have e1:pass w sl (yd (p::es)) (b0,d)=pass w sl (yd es) (pass w sl (edA p.1 p.2) (b0,d)):=by
   rw[qbx];unfold pass;rw[List.foldl_append]
  rw[e1];have e2:qyc W sl v24 v25 v28 g30 g31 g32 b0 (m8 N d) (j1 p) (fun a' =>some (Sum.inl a' :(Bool×List ae)⊕List ae)) (fun r=>some (.inr r))=some (.inl ((pass w sl (edA p.1 p.2) (b0,d)).1,m8 N (pass w sl (edA p.1 p.2) (b0,d)).2)):=by
   unfold qyc j1;simp only[];rw[h0];rfl
  unfold qyb;rw[List.map_cons];simp only[xx,e2];exact ih
def q35(x:Int×List ab):Nat×List (Nat×Nat):=(x.1.toNat,x.2.map fun a=>(a.1.toNat,a.2.1.toNat))
theorem q59(p:Nat×List (Nat×Nat)):q35 (j1 p)=p:=by
 obtain⟨i,A⟩:=p;unfold q35 j1;simp only[Int.toNat_natCast,List.map_map];congr 1;have:((fun a:ab=>(a.1.toNat,a.2.1.toNat))∘bw)=id:=by
  funext q;obtain⟨a,b⟩:=q;simp[bw]
 rw[this,List.map_id]
theorem jew{es:Ens}{l:List (Int×List ab)}(h:l.Perm (es.map j1)):∃es' :Ens,l=es'.map j1∧es'.Perm es:=by
 refine⟨l.map q35,?_,?_⟩
 ·rw[List.map_map];have:l.map (j1∘q35)=l.map id:=List.map_congr_left fun x hx=>by
   obtain⟨p,hp,rfl⟩:=List.mem_map.1 (h.mem_iff.1 hx);show j1 (q35 (j1 p))=j1 p;rw[q59]
  rw[this,List.map_id]
 ·have:=h.map q35;rw[List.map_map]at this;have e:es.map (q35∘j1)=es.map id:=List.map_congr_left fun p _=>q59 p
  rw[e,List.map_id]at this;exact this
theorem jas{es es' :Ens}(h:es'.Perm es):(∀e,e∈yd es' ↔e∈yd es)∧(yd es').length=(yd es).length:=by
 have hp:(yd es').Perm (yd es):=h.flatMap_right _;exact⟨fun e=>hp.mem_iff,hp.length_eq⟩
def qla(g:Nat):p8:=fun i=>if i=g then some (0,0)else none
section
variable {w : Nat → Int} {g : Nat} {sl : Bool} {E : Eg → Prop}
theorem qse:Snd E w g (qla g):=fun i v h=>by
 unfold qla at h;by_cases hi:i=g
 ·rw[if_pos hi]at h;cases h;rw[hi];exact .nil
 ·rw[if_neg hi]at h;cases h
theorem qsd:Atl E w g sl 0 (qla g):=fun i v h hv=>by
 cases h with
 |nil=>exact⟨(0,0),if_pos rfl,qgi _⟩
 | @cons _ b t u he hw=>
  have:=hw.pos;simp only[ya]at hv;omega
theorem q6c:Bd 0 (qla g):=fun i v h=>by
 unfold qla at h;by_cases hi:i=g
 ·rw[if_pos hi]at h;cases h;simp
 ·rw[if_neg hi]at h;cases h
def jdy(w:Nat→Int)(sl:Bool)(g:Nat)(L:List Eg):Nat→p8
 |0=>qla g
 |k+1=>(pass w sl L (false,jdy w sl g L k)).2
theorem q6d{L:List Eg}(hL:∀e,E e↔e∈L):∀k,Snd E w g (jdy w sl g L k)∧Atl E w g sl k (jdy w sl g L k)
 |0=>⟨qse,qsd⟩
 |k+1=>by
  obtain⟨h1,h2⟩:=q6d hL k;exact⟨ql8 L _ (fun e he=> .inl ((hL e).2 he)) h1,qtl (fun e he=>(hL e).1 he) h2⟩
end
section
variable {W : Int → Option Int} {w : Nat → Int} {N TT g : Nat} {sl : Bool} {es : Ens}
structure BG (W : Int → Option Int) (w : Nat → Int) (N TT g : Nat) (sl : Bool) (es : Ens) : Prop where
 wt : Wt W w TT
 good : qr0 N TT es
 len : (yd es).length ≤ 2000
 n100 : N ≤ 100
 gl : g < N
 cyc : qf6 (fun e => e ∈ yd es) w sl g
noncomputable abbrev qk7(W:Int→Option Int)(sl:Bool)(N g:Nat)(es:Ens){Q:Type}(a:Int×List ae)(nx:Int×List ae→Option Q)(dn:List ae→Option Q)(rt:List ae→Option Q):Option Q:=
 qk4 (R:=Q) W sl ((N:Int)+1) (es.map j1) (g:Int) (N:Int) a.1 a.2 nx dn rt
structure BI (w : Nat → Int) (g : Nat) (sl : Bool) (es : Ens) (k : Nat) (d : p8) : Prop where
 snd : Snd (fun e => e ∈ yd es) w g d
 atl : Atl (fun e => e ∈ yd es) w g sl k d
 bd : Bd (k * 2000) d
theorem BI.opt(h:BG W w N TT g sl es){k:Nat}{d:p8}(hi:BI w g sl es k d)(hk:N≤k):Opt (fun e=>e∈yd es) w g sl d:=qx9 (fun e he=>(qsl h.good e he).a) h.cyc hk hi.atl
theorem BI.pass(h:BG W w N TT g sl es){k:Nat}{d:p8}(hi:BI w g sl es k d)(hk:k≤N){es' :Ens}(hp:es'.Perm es)(v24 v25:Int)(v28 g30:List (Int×List ab))(g31 g32:Int):
  qyb W sl v24 v25 v28 g30 g31 g32 (es'.map j1) (false,m8 N d)=some (.inl ((Go.Proofs.Ytokeielgplbdeaa.pass w sl (yd es') (false,d)).1,m8 N (Go.Proofs.Ytokeielgplbdeaa.pass w sl (yd es') (false,d)).2))∧
  BI w g sl es (k+1) (Go.Proofs.Ytokeielgplbdeaa.pass w sl (yd es') (false,d)).2∧
  ((Go.Proofs.Ytokeielgplbdeaa.pass w sl (yd es') (false,d)).1=false→(Go.Proofs.Ytokeielgplbdeaa.pass w sl (yd es') (false,d)).2=d∧Opt (fun e=>e∈yd es) w g sl d):=by
 obtain⟨h1,h2⟩:=jas hp;have hg' :qr0 N TT es' :=fun p hp' =>h.good p (hp.mem_iff.1 hp')
 have hN:=h.n100;have hlen:=h.len;have hb:=Bd.pass (w:=w) (sl:=sl) (yd es') (s:=(false,d)) hi.bd fun e he=>h.wt.b _ (qsl hg' e he).t
 refine⟨q5y h.wt sl (by omega) v24 v25 v28 g30 g31 g32 es' (k*2000) false d hg' hi.bd (by omega),⟨ql8 _ _ (fun e he=> .inl ((h1 e).1 he)) hi.snd,qtl (fun e he=>(h1 e).2 he) hi.atl,hb.mono (by omega)⟩,fun hf=> ?_⟩;obtain⟨_,e2,e3⟩:=qn3 _ _ hf;refine⟨e2,q2x (L:=yd es') (fun e he=>(h1 e).2 he) (fun i v hw hv=>hi.atl i v hw (by omega)) e3⟩
theorem jdg(h:BG W w N TT g sl es){dO:p8}(hs:Snd (fun e=>e∈yd es) w g dO)(ho:Opt (fun e=>e∈yd es) w g sl dO):∀(f k:Nat) (d:p8),k+f=N+1→BI w g sl es k d→
  ndN (qk7 W sl N g es) (fun e=>some e) (fun r=>some r) (m8 N dO) (f+1) ((k:Int),m8 N d):=by
 have hN:=h.n100;intro f
 induction f with
 |zero=>
  intro k d hk hi;have e:d=dO:=yw hi.snd (hi.opt h (by omega)) hs ho;show qk7 W sl N g es _ _ _ _=some ();unfold qk7 qk4;rw[qyd (by simp only[];omega)];exact tm.2 (by rw[e])
 |succ f ih=>
  intro k d hk hi;show qk7 W sl N g es _ _ _ _=some ();unfold qk7 qk4;rw[q3u (by simp only[];omega)];refine q0a fun l hl=> ?_
  obtain⟨es',rfl,hp⟩:=jew hl;obtain⟨h1,h2,h3⟩:=hi.pass h (by omega) hp ((N:Int)+1) (k:Int) (es.map j1) (es.map j1) (g:Int) (N:Int);refine⟨_,h1,?_⟩;rw[qy9];cases hb:(Go.Proofs.Ytokeielgplbdeaa.pass w sl (yd es') (false,d)).1 with
  |false=>
   obtain⟨e2,e3⟩:=h3 hb;simp only[Bool.not_false,cond_true];refine tm.2 ?_;rw[e2,yw hi.snd e3 hs ho]
  |true=>
   simp only[Bool.not_true,cond_false];rw[qrk (by omega) (by omega),al];exact tm.2 (ih (k+1) _ (by omega) h2)
theorem jdh(h:BG W w N TT g sl es){dO:p8}(hs:Snd (fun e=>e∈yd es) w g dO)(ho:Opt (fun e=>e∈yd es) w g sl dO)(r' :List ae):∀(n k:Nat) (d:p8),k≤N+1→BI w g sl es k d→
  ndN (qk7 W sl N g es) (fun e=>some e) (fun r=>some r) r' n ((k:Int),m8 N d)→r' =m8 N dO:=by
 have hN:=h.n100;intro n
 induction n with
 |zero=>intro k d _ _ hn;exact hn.elim
 |succ n ih=>
  intro k d hk hi hn;have hn:qk7 W sl N g es ((k:Int),m8 N d) (fun s' =>tell (ndN (qk7 W sl N g es) (fun e=>some e) (fun r=>some r) r' n s')) (fun e=>tell (some e=some r')) (fun x=>tell (some x=some r'))=some ():=hn;unfold qk7 qk4 at hn;by_cases hkN:k<N+1
  ·rw[q3u (by simp only[];omega)]at hn;obtain⟨y,hy,hlk⟩:=qxs hn _ (List.Perm.refl _);obtain⟨h1,h2,h3⟩:=hi.pass h (by omega) (List.Perm.refl es) ((N:Int)+1) (k:Int) (es.map j1) (es.map j1) (g:Int) (N:Int);rw[h1]at hy;cases hy;rw[qy9]at hlk;cases hb:(Go.Proofs.Ytokeielgplbdeaa.pass w sl (yd es) (false,d)).1 with
   |false=>
    rw[hb]at hlk;simp only[Bool.not_false,cond_true]at hlk;obtain⟨e2,e3⟩:=h3 hb;have:=tm.1 hlk;rw[e2,yw hi.snd e3 hs ho]at this;exact(Option.some.inj this).symm
   |true=>
    rw[hb]at hlk;simp only[Bool.not_true,cond_false]at hlk;rw[qrk (by omega) (by omega),al]at hlk;exact ih (k+1) _ (by omega) h2 (tm.1 hlk)
  ·rw[qyd (by simp only[];omega)]at hn;have:=tm.1 hn;have e:d=dO:=yw hi.snd (hi.opt h (by omega)) hs ho;simp only[e]at this;exact(Option.some.inj this).symm
theorem jdf(h:BG W w N TT g sl es):∃d,q3s (es.map j1) (g:Int) (N:Int) W sl=some (m8 N d)∧Snd (fun e=>e∈yd es) w g d∧Opt (fun e=>e∈yd es) w g sl d:=by
 have hN:=h.n100;have hg:=h.gl;obtain⟨hs,ha⟩:=q6d (E:=fun e=>e∈yd es) (w:=w) (g:=g) (sl:=sl) (L:=yd es) (fun e=>Iff.rfl) N;have ho:=qx9 (fun e he=>(qsl h.good e he).a) h.cyc (Nat.le_refl N) ha;generalize jdy w sl g (yd es) N=dO at hs ha ho;have hi0:BI w g sl es 0 (qla g):=⟨qse,qsd,q6c.mono (Nat.zero_le _)⟩;have h1:=jdg h hs ho (N+1) 0 (qla g) (by omega) hi0;have h2:=jkx (s:=(((0:Nat):Int),m8 N (qla g))) h1 fun r' n' hn=>jdh h hs ho r' n' 0 (qla g) (by omega) hi0 hn
 refine⟨dO,?_,hs,ho⟩;have e0:List.replicate N (ae.z:ae)=m8 N fun _=>none:=qh5 N _
 have e1:(List.replicate N (ae.z:ae)).set g (true,0,0,())=m8 N (qla g):=by
  rw[e0];refine(q2f N (fun _=>none) g (0,0)).trans ?_;congr 1
 have hl:(List.replicate N (ae.z:ae)).length=N:=List.length_replicate;have hz:(List.replicate N (ae.z:ae)).getD g ae.z=ae.z:=by
  rw[e0];exact vi hg _
 have hz1:(ae.z).2.1=(0:Int):=rfl;have hz2:(ae.z).2.2.1=(0:Int):=rfl;unfold q3s;rw[Int.toNat_natCast];simp(disch:=omega)only[hl,hz,hz1,hz2,e1,rs];exact h2
end
end Go.Proofs.Ytokeielgplbdeaa
