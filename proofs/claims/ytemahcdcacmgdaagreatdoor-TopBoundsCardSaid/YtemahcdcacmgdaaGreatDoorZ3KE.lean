/-
  A typed machine over the model's memory (part KE). No program is named.
-/
import Derived.ProofKit
import Derived.Deep.Slices
import Derived.Deep.Fields
import Derived.ChangeSame
import Derived.Below
import Derived.Carry
import Derived.OpenShut
import Derived.KernelRfl
import Derived.Maps.Range
import Derived.Test.YtemahcdcacmgdaaGreatDoorZ3KD
set_option linter.all false
namespace Go.K
open Go.M Go.RowKit
section
variable {U U' : Nat → Prop} {w0 : World} {σ0 : Pl} {K : Nat → Bool} {H Hv : List TOb} {w : World} {σ : Pl} {ρ : Rho} {bo : Bool} {l : List Hs} {y : kd l}
theorem jgo(hl:HLe (fun _=>False) Hv H){i tg:Nat}{ty:TypeId}{md md' :Md}{its:List TypeId}{t:Ty}{xs:List t.den}{H' :List TOb}(ho:Hv[tg]? =some (.arr ty md' its t xs))(ho' :H'[i]? =some (.arr ty md its t xs))(hm:jiw md md' =true)(j f:Nat):
  vw H' (.r i j f)=vw H (.r tg j f):=by
 rw[jj ho',jj (hl.ob ho)];have:md.isOwn=md'.isOwn:=by cases md<;>cases md' <;>simp_all[jiw,Md.isOwn]
 rw[this]
theorem jxv(hr:HR U w0 σ0 K (vw H) w σ)(hl:HLe (fun _=>False) Hv H)(hok:qsm ρ=true)(hu:∀b,U' b→U b∨cn σ b)(hnb:bo=false→∀b,U' b→U b)(hy:qo1 bo ρ Hv ρ l=some y):Cv U U' w0 σ0 K H Hv (da l y) w σ ρ bo:=by
 obtain⟨_,_,hat⟩:=qyp ρ l y hy;refine⟨hr,hl,hok,hu,hnb,fun i tg hi=> ?_,fun i hi=> ?_,fun i tg hi j f q hq=> ?_⟩
 ·obtain⟨hs,xi,h1,h2⟩:=hat i _ hi;rcases Hs.dec_cases h1 with⟨e,_⟩|⟨tg',ty,md,md',its,t,xs,e,ho,_,he⟩|⟨tg',ty,sz,n,m,cs,x,e,ho,_,_,he⟩|⟨tg',kt,vt,es,e,ho,he⟩|⟨tg',kt,u1,ety,es,e,ho,he⟩
  ·cases e
  ·cases e;rw[he]at h2;simp only[aj,ax h2,ax (hl.ob ho),Option.map_some]
  ·cases e;rw[he]at h2;simp only[aj,qch h2,qch (hl.obc ho),Option.map_some]
  ·cases e;rw[he]at h2;simp only[aj,qmm h2,qmm (hl.obm ho),Option.map_some]
  ·cases e;rw[he]at h2;simp only[aj,wc h2,wc (hl.obo ho),Option.map_some]
 ·obtain⟨hs,xi,h1,h2⟩:=hat i _ hi;rcases Hs.dec_cases h1 with⟨_,ty,md,its,t,_,he⟩|⟨tg',ty,md,md',its,t,xs,e,_⟩|⟨tg',ty,sz,n,m,cs,x,e,_⟩|⟨tg',kt,vt,es,e,_⟩|⟨tg',kt,u1,ety,es,e,_⟩
  ·rw[he]at h2;exact⟨t.sz,by simp only[aj,ax h2,Option.map_some];rfl⟩
  ·cases e
  ·cases e
  ·cases e
  ·cases e
 ·obtain⟨hs,xi,h1,h2⟩:=hat i _ hi;rcases Hs.dec_cases h1 with⟨e,_⟩|⟨tg',ty,md,md',its,t,xs,e,ho,hm,he⟩|⟨tg',ty,sz,n,m,cs,x,e,ho,_,_,he⟩|⟨tg',kt,vt,es,e,ho,he⟩|⟨tg',kt,u1,ety,es,e,ho,he⟩
  ·cases e
  ·cases e;rw[he]at h2;simp only[aj]at hq⊢;rw[jgo hl ho h2 hm j f];exact hq
  ·cases e;simp only[aj,vw,hl.obc ho,vwR,Option.map_none]at hq;cases hq
  ·cases e;simp only[aj,vw,hl.obm ho,vwR,Option.map_none]at hq;cases hq
  ·cases e;rw[he]at h2;simp only[aj,n5 (hl.obo ho)]at hq;simp only[aj,n5 h2];exact hq
theorem jud(hr:HR U w0 σ0 K (vw H) w σ)(hok:qsm ρ=true):∀T T' g o o',mi ρ σ T=some (g,o)→mi ρ σ T' =some (g,o')→T=T' :=by
 intro T T' g o o' h1 h2;obtain⟨tg,e1,e2⟩:=yc h1;obtain⟨tg',e3,e4⟩:=yc h2;have e:=hr.inj _ _ _ _ _ e2 e4;have et:tg=tg' :=by have:=congrArg TG.ob e;simpa only[TG.at_ob]using this
 subst et;exact TG.at_inj e (q2p hok e1 e3)
theorem juc(hr:HR U w0 σ0 K (vw H) w σ)(hl:HLe (fun _=>False) Hv H)(hy:qo1 bo ρ Hv ρ l=some y):∀T p,mi ρ σ T=some p→∃v,vw (da l y) T=some v:=by
 intro T p hp;obtain⟨tg,e1,e2⟩:=yc hp;obtain⟨v,hv⟩:=hr.dom _ _ e2;obtain⟨hs,xi,h1,h2⟩:=(qyp ρ l y hy).2.2 _ _ e1;rcases Hs.dec_cases h1 with⟨e,_⟩|⟨tg',ty,md,md',its,t,xs,e,ho,hm,he⟩|⟨tg',ty,sz,n,m,cs,x,e,ho,_,_,he⟩|⟨tg',kt,vt,es,e,ho,he⟩|⟨tg',kt,u1,ety,es,e,ho,he⟩
 ·cases e
 ·cases e;rw[he]at h2;cases T with
  |o i=>exact⟨_,ax h2⟩
  |r i j f=>exact⟨v,(jgo hl ho (i:=i) h2 hm j f).trans hv⟩
 ·cases e;rw[he]at h2;cases T with
  |o i=>exact⟨_,qch h2⟩
  |r i j f=>
   simp only[TG.at,vw,hl.obc ho,vwR]at hv;cases hv
 ·cases e;rw[he]at h2;cases T with
  |o i=>exact⟨_,qmm h2⟩
  |r i j f=>
   simp only[TG.at,vw,hl.obm ho,vwR]at hv;cases hv
 ·cases e;rw[he]at h2;cases T with
  |o i=>exact⟨_,wc h2⟩
  |r i j f=>
   simp only[TG.at]at hv;rw[n5 (hl.obo ho)]at hv;exact⟨v,by rw[n5 (H:=da l y) (t:=i) h2];exact hv⟩
theorem jue(h:Cv U U' w0 σ0 K H Hv (da l y) w σ ρ bo)(hy:qo1 bo ρ Hv ρ l=some y):∀T v,vw (da l y) T=some v→OR (gr U' (vw (da l y)) w (mi ρ σ)) (mi ρ σ T) v:=by
 intro T v hv;obtain⟨hlen,hlen',hat⟩:=qyp ρ l y hy;have hlt:T.ob<(da l y).length:=by
  cases T with
  |o i=>
   simp only[vw]at hv;rcases Nat.lt_or_ge i (da l y).length with h1|h1
   ·exact h1
   ·rw[List.getElem?_eq_none h1]at hv;cases hv
  |r i j f=>
   simp only[vw]at hv;rcases Nat.lt_or_ge i (da l y).length with h1|h1
   ·exact h1
   ·rw[List.getElem?_eq_none h1]at hv;cases hv
 have hρ:ρ[T.ob]? =some ρ[T.ob]:=List.getElem?_eq_getElem (by omega);obtain⟨hs,xi,h1,h2⟩:=hat _ _ hρ;rcases Hs.dec_cases h1 with⟨e,ty,md,its,t,hm,he⟩|⟨tg,ty,md,md',its,t,xs,e,ho,hm,he⟩|⟨tg,ty,sz,n,m,cs,x,e,ho,hd,hn0,he⟩|⟨tg,kt,vt,es,e,ho,he⟩|⟨tg,kt,u1,ety,es,e,ho,he⟩
 ·rw[e]at hρ;have:mi ρ σ T=none:=by simp only[mi,hρ]
  rw[this];rw[he]at h2;cases T with
  |o i=>
   have h2:(da l y)[i]? =_:=h2;rw[ax h2]at hv;cases hv;rfl
  |r i j f=>
   have h2:(da l y)[i]? =_:=h2;rw[jj h2,if_neg (by simp)]at hv;cases hv
 ·rw[e]at hρ;rw[z8 hρ];rw[he]at h2;have ho' :=h.le.ob ho;cases T with
  |o i=>
   have h2:(da l y)[i]? =_:=h2;rw[ax h2]at hv;cases hv;have hob:=h.hr.obj _ _ (ax ho');show OR _ (σ (.o tg)) _;cases hp:σ (.o tg)with
   |none=>rw[hp]at hob;exact hob
   |some p=>
    rw[hp]at hob;obtain⟨g,o⟩:=p;rcases hob with⟨hp0,cur,c,h3,h4,h5,h6⟩|⟨h3,h4,es,k,hh,hmo⟩
    rotate_left
    ·exact .inr ⟨h3,h4,es,k,hh,hmo.sb (θ:=fun _=> .id) (fun i f=>j3h (A:=bx tg md' t xs i f) (B:=bx _ md t xs i f) (w9 h3) (w9 h3)) fun j y hy=>by show VR _ (bx _ md t xs j 1) y;rw[w9 h3];trivial⟩
    refine .inl ⟨hp0,cur,c,h3,h4,h5,fun j f hj hf=> ?_⟩;obtain⟨u,hu,h7,hV⟩:=h6 j f hj hf;refine⟨u,hu,h7,?_⟩;simp only[]at hV hf hj⊢;cases md with
    |fz fr=>
     cases md' with
     |fz fr' =>
      rw[kf]at hV⊢;have hC:=(Ty.C_iff (gr U (vw H) w σ) fr' t _ f u hf).2 hV;refine(Ty.C_iff (gr U' (vw (da l y)) w (mi ρ σ)) fr t _ f u hf).1 (Ty.C_low (w:=w) (w' :=w) ⟨Nat.le_refl _,fun b hb hY hY' =>(h.low fr).ex b hb (fun hY2=>hY ?_) hY',fun _ _ _=>rfl⟩ t _ f u hC);rcases hY2 with e|⟨e1,e2⟩
      ·exact .inl e
      ·exact .inr ⟨qiz hm e1,e2⟩
     |_=>simp[jiw]at hm
    |own=>
     cases md' with
     |own=>
      unfold bx at hV⊢;simp only[Md.fr]at hV⊢;split at hV
      ·rename_i fr0 v0 ys0 hc;obtain⟨n0,sz0,hI,hs0⟩:=hV;have hk:=jgo h.le ho h2 hm j f;refine⟨n0,sz0,?_,?_⟩
       ·show aj (vw (da l y)) _=_;simp only[aj,TG.ob]at hk⊢;rw[hk];exact hI
       ·rcases hs0 with hs0|⟨g1,o1,c1,cur1,e1,hσ1,r1⟩
        ·exact .inl hs0
        ·exact .inr ⟨g1,o1,c1,cur1,e1,(z8 (T:= .r i j f) hρ).trans hσ1,r1⟩
      ·rename_i hns;have hform:=Ty.cells_form true t (xs.getD j t.dft);have hmem:(t.cells true (xs.getD j t.dft)).getD f .any∈t.cells true (xs.getD j t.dft):=by
        have hlt2:f<(t.cells true (xs.getD j t.dft)).length:=by rw[Ty.cells_len];exact hf
        generalize t.cells true (xs.getD j t.dft)=L at hlt2;rw[List.getD_eq_getElem?_getD,List.getElem?_eq_getElem hlt2];exact List.getElem_mem _
       have hf1:=hform _ hmem;generalize(t.cells true (xs.getD j t.dft)).getD f .any=A at hns hV hf1;cases A with
       |int k n=>exact hV
       |bool b=>exact hV
       |val u=>exact hV
       |sl fr0 t0 xs0=>exact absurd rfl (hns fr0 t0 xs0)
       |_=>simp[wy]at hf1
     |_=>simp[jiw]at hm
    |hole i0 f0=>cases md' <;>simp[jiw]at hm
    |swap i0 j0=>cases md' <;>simp[jiw]at hm
  |r i j f=>
   have h2:(da l y)[i]? =_:=h2;have hk:=jgo h.le ho h2 hm j f;rw[hk]at hv;have hob:=h.hr.obj _ _ hv;show OR _ (σ (.r tg j f)) _;cases hp:σ (.r tg j f)with
   |none=>rw[hp]at hob;exact hob
   |some p=>
    rw[hp]at hob;obtain⟨g,o⟩:=p;rcases hob with⟨hp0,cur,c,h3,h4,h5,h6⟩|⟨h3,h4,es,k,hh,hmo⟩
    rotate_left
    ·exact .inr ⟨h3,h4,es,k,hh,hmo.sb (θ:=fun _=> .id) (fun i f=>(TV.sb_id _).symm) fun j' y hy=>by
      rw[jj ho']at hv;split at hv
      ·cases hin:dv t (xs.getD j t.dft) f with
       |none=>rw[hin]at hv;cases hv
       |some z=>
        obtain⟨v0,ys0⟩:=z;rw[hin]at hv;cases hv;have:(v0.cells true (ys0.getD j' v0.dft)).getD 1 .any= .any:=qgh h3 _ _ _;show VR _ ((v0.cells true (ys0.getD j' v0.dft)).getD 1 .any) y;rw[this]
        trivial
      ·cases hv⟩
    refine .inl ⟨hp0,cur,c,h3,h4,h5,fun j' f' hj hf=> ?_⟩;obtain⟨u,hu,h7,hV⟩:=h6 j' f' hj hf;refine⟨u,hu,h7,?_⟩;rw[jj ho']at hv;split at hv
    ·cases hin:dv t (xs.getD j t.dft) f with
     |none=>rw[hin]at hv;cases hv
     |some z=>
      obtain⟨v0,ys0⟩:=z;rw[hin]at hv;cases hv;have hC:=(Ty.C_iff (gr U (vw H) w σ) true v0 _ f' u hf).2 hV;exact(Ty.C_iff (gr U' (vw (da l y)) w (mi ρ σ)) true v0 _ f' u hf).1 (Ty.C_low (h.low true) v0 _ f' u hC)
    ·cases hv
 ·rw[e]at hρ;rw[z8 hρ];rw[he]at h2;have ho' :=h.le.obc ho;cases T with
  |o i=>
   have h2:(da l y)[i]? =_:=h2;rw[qch h2]at hv;cases hv;have hob:=h.hr.obj _ _ (qch ho');show OR _ (σ (.o tg)) _;cases hp:σ (.o tg)with
   |none=>rw[hp]at hob;exact hob
   |some p=>
    rw[hp]at hob;obtain⟨g,o⟩:=p;obtain⟨cur,c,h3,h4,h5,h6⟩:=hob.cells (.inr hn0);refine .inl ⟨.inr hn0,cur,c,h3,h4,h5,fun j f hj hf=> ?_⟩;obtain⟨u,hu,h7,hV⟩:=h6 j f hj hf;exact⟨u,hu,h7,ShL.dec_at h m cs x hd _ u hV⟩
  |r i j f=>
   have h2:(da l y)[i]? =_:=h2;simp only[vw,h2,vwR]at hv;cases hv
 ·rw[e]at hρ;rw[z8 hρ];rw[he]at h2;have ho' :=h.le.obm ho;cases T with
  |o i=>
   have h2:(da l y)[i]? =_:=h2;rw[qmm h2]at hv;cases hv;have hob:=h.hr.obj _ _ (qmm ho');show OR _ (σ (.o tg)) _;cases hp:σ (.o tg)with
   |none=>rfl
   |some p=>
    rw[hp]at hob;obtain⟨g,o⟩:=p;obtain⟨es,k,hh,hmo⟩:=hob.map rfl rfl;exact .inr ⟨rfl,rfl,es,k,hh,jm9 (jf7 hmo) hmo.1⟩
  |r i j f=>
   have h2:(da l y)[i]? =_:=h2;simp only[vw,h2,vwR]at hv;cases hv
 ·rw[e]at hρ;rw[z8 hρ];rw[he]at h2;have ho' :=h.le.obo ho;have hk:∀i j f,T.ob=i→vw (da l y) (.r i j f)=vw H (.r tg j f):=fun i j f hi=>by subst hi;rw[n5 h2,n5 ho']
  cases T with
  |o i=>
   have h2:(da l y)[i]? =_:=h2;rw[wc h2]at hv;cases hv;have hob:=h.hr.obj _ _ (wc ho');show OR _ (σ (.o tg)) _;cases hp:σ (.o tg)with
   |none=>rfl
   |some p=>
    rw[hp]at hob;obtain⟨g,o⟩:=p;obtain⟨hs,k,hh,hmo⟩:=hob.map rfl rfl;refine .inr ⟨rfl,rfl,hs,k,hh,te.mk' hmo.1 (fun j e' he' => ?_) fun j he' => ?_⟩
    ·obtain⟨q1,q2⟩:=hmo.at_ he';have q1:moC tg kt es none j 0=_:=q1;have q2:VR _ (moC tg kt es none j 1) _:=q2;show moC i kt es none j 0=_∧VR _ (moC i kt es none j 1) _;cases hp' :es[j]? with
     |none=>rw[qnt hp']at q1;cases q1
     |some p' =>
      rw[qdn hp']at q1;rw[qi5 hp',if_neg (by simp)]at q2;refine⟨by rw[qdn hp'];exact q1,?_⟩;rw[qi5 hp',if_neg (by simp)];obtain⟨n0,sz0,hI,hs0⟩:=q2;refine⟨n0,sz0,?_,?_⟩
      ·show aj (vw (da l y)) _=_;simp only[aj,hk i j 0 rfl];exact hI
      ·rcases hs0 with hs0|⟨g1,o1,c1,cur1,e1,hσ1,r1⟩
       ·exact .inl hs0
       ·exact .inr ⟨g1,o1,c1,cur1,e1,(z8 (T:= .r i j 0) hρ).trans hσ1,r1⟩
    ·have:=(hmo.no he').1;have this:moC tg kt es none j 0= .any:=this;show moC i kt es none j 0=_∧moC i kt es none j 1=_;cases hp' :es[j]? with
     |none=>exact⟨qnt hp',qnt hp'⟩
     |some p' =>rw[qdn hp']at this;cases this
  |r i j f=>
   rw[hk i j f rfl]at hv;have hob:=h.hr.obj _ _ hv;show OR _ (σ (.r tg j f)) _;cases hp:σ (.r tg j f)with
   |none=>rw[hp]at hob;exact hob
   |some p=>
    rw[hp]at hob;obtain⟨g,o⟩:=p;rw[n5 ho']at hv;split at hv
    ·cases hv;rcases hob with⟨hp0,cur,c,h3,h4,h5,h6⟩|⟨h3,h4,hs,k,hh,hmo⟩
     rotate_left
     ·exact .inr ⟨h3,h4,hs,k,hh,hmo.sb (θ:=fun _=> .id) (fun i f=>(TV.sb_id _).symm) fun i y hy=>by
       have:(u1.cells true ((qjs es j).getD i u1.dft)).getD 1 .any= .any:=qgh h3 _ _ _;show VR _ ((u1.cells true ((qjs es j).getD i u1.dft)).getD 1 .any) y;rw[this]
       trivial⟩
     refine .inl ⟨hp0,cur,c,h3,h4,h5,fun j' f' hj hf=> ?_⟩;obtain⟨u,hu,h7,hV⟩:=h6 j' f' hj hf;refine⟨u,hu,h7,?_⟩;have hC:=(Ty.C_iff (gr U (vw H) w σ) true u1 _ f' u hf).2 hV;exact(Ty.C_iff (gr U' (vw (da l y)) w (mi ρ σ)) true u1 _ f' u hf).1 (Ty.C_low (h.low true) u1 _ f' u hC)
    ·cases hv
end
end Go.K
namespace Go.K
open Go.M Go.RowKit
section
variable {U : Nat → Prop} {w0 : World} {σ0 : Pl} {K : Nat → Bool} {w : World} {σ : Pl} {ρ : Rho}
theorem jf1:∀{kp:List Bool} {t0:Nat} {ρ:Rho},jp5 t0 kp ρ=true→∀t,br kp t=true→ρ[t0+t]? =some (some (t0+t))
 |[],_,_,_,t,h=>by simp[br]at h
 |true::kp,t0,ρ,h,t,hk=>by
  simp only[jp5,Bool.and_eq_true]at h;cases t with
  |zero=>
   have h1:=h.1;split at h1
   ·rename_i t' e;rw[Nat.add_zero,e,aw h1]
   ·cases h1
  |succ t=>
   have:=jf1 h.2 t (by simpa[br]using hk);rw[show t0+(t+1)=t0+1+t by omega];exact this
 |false::kp,t0,ρ,h,t,hk=>by
  cases t with
  |zero=>simp[br]at hk
  |succ t=>
   have:=jf1 (kp:=kp) (t0:=t0+1) (ρ:=ρ) h t (by simpa[br]using hk);rw[show t0+(t+1)=t0+1+t by omega];exact this
theorem j5m{H:List TOb}{l:List Hs}{y:kd l}{kp:List Bool}(hK:∀t,br kp t=false→K t=false)(hr:HR U w0 σ0 K (vw H) w σ)(hok:qsm ρ=true)(hkp:jp5 0 kp ρ=true)(hy:qo1 false ρ H ρ l=some y):
  Cv U U w0 σ0 K H H (da l y) w σ ρ false∧HR U w0 σ0 K (vw (da l y)) w (mi ρ σ):=by
 have hcv:Cv U U w0 σ0 K H H (da l y) w σ ρ false:=jxv hr (HLe.refl H) hok (fun b h=> .inl h) (fun _ b h=>h) hy;refine⟨hcv,jud hr hok,juc hr (HLe.refl H) hy,jue hcv hy,fun T g o hT=> ?_,hr.os,hr.tape,hr.output,hr.size,hr.blk,fun t ht=> ?_,hr.ksz,hr.ulow,hr.tb0⟩
 ·obtain⟨tg,_,h2⟩:=yc hT;exact hr.own _ _ _ h2
 ·have hk:br kp t=true:=by
   cases hb:br kp t with
   |true=>rfl
   |false=>rw[hK t hb]at ht;cases ht
  have:=jf1 hkp t hk;rw[Nat.zero_add]at this;rw[z8 (T:= .o t) this];exact hr.keep t ht
theorem qtk(ρ:List Nat)(σ:Pl):mi (ρ.map some) σ=qls ρ σ:=by
 funext T;unfold mi qls;by_cases h:T.ob<ρ.length
 ·rw[if_pos h,List.getElem?_map,List.getElem?_eq_getElem h,List.getD_eq_getElem?_getD,List.getElem?_eq_getElem h];rfl
 ·rw[if_neg h,List.getElem?_map,List.getElem?_eq_none (by omega)];rfl
theorem jl5{ρ:List Nat}{t:Nat}:nt t (ρ.map some)=inL t ρ:=by
 cases h:inL t ρ with
 |true=>rw[qyq]at h;exact qn7.2 (List.mem_map.2 ⟨t,h,rfl⟩)
 |false=>
  rw[qyr]at h;refine qhj.2 fun hm=> ?_
  obtain⟨t',h1,h2⟩:=List.mem_map.1 hm;injection h2 with h2
  subst h2;exact h h1
theorem j35{H Hv:List TOb}{l:List Hs}{y:kd l}{ρ:List Nat}(K' :Nat→Bool)(hr:HR U w0 σ0 K (vw H) w σ)(hl:HLe (fun _=>False) Hv H)(hok:qsm (ρ.map some)=true)(hy:qo1 true (ρ.map some) Hv (ρ.map some) l=some y):
  Cv U (qd9 ρ U σ) w0 σ0 K H Hv (da l y) w σ (ρ.map some) true∧HR (qd9 ρ U σ) w (qls ρ σ) K' (vw (da l y)) w (qls ρ σ):=by
 have hcv:Cv U (qd9 ρ U σ) w0 σ0 K H Hv (da l y) w σ (ρ.map some) true:=jxv hr hl hok (fun b h=>h.imp id fun⟨T,o,h1,_⟩=>⟨T,o,h1⟩) (fun e=>by cases e) hy;refine⟨hcv,?_⟩;have hi:=jud hr hok;have hd:=juc hr hl hy;have ho:=jue hcv hy;rw[qtk]at hi hd ho;refine⟨hi,hd,ho,fun T g o hT=>⟨?_, .inr ⟨T,o,hT⟩⟩,rfl,rfl,rfl,Nat.le_refl _,fun _ _ _=>rfl,fun _ _=>rfl,fun t g o _ _ cur e hc=>⟨cur,hc,rfl⟩,fun b hb=> ?_,fun g c hc=>⟨(hr.tb g c hc).1,fun T o hT=> ?_⟩⟩
 ·rw[←qtk]at hT;obtain⟨tg,h1,h2⟩:=yc hT;rintro(hu|⟨T',o',h3,h4⟩)
  ·exact(hr.own _ _ _ h2).1 hu
  ·have e:=hr.inj _ _ _ _ _ h2 h3;rw[←e,TG.at_ob,←jl5]at h4;exact qhj.1 h4 (List.mem_of_getElem? h1)
 ·rcases hb with hu|⟨T',o',h3,_⟩
  ·exact Nat.lt_of_lt_of_le (hr.ulow b hu) hr.size
  ·exact hr.lt h3
 ·rw[←qtk]at hT;obtain⟨tg,h1,h2⟩:=yc hT;exact(hr.tb g c hc).2 _ _ h2
theorem jjq{bo:Bool}{s:TS}:∀(l:List (Nat×Sh)) (x:q93 l),joc bo ρ s l=some x→∀t,bq (qfn l x) t= .any∨∃(sh:Sh) (xi:sh.den),sh.dec bo ρ s.H (bq s.S t)=some xi∧bq (qfn l x) t=sh.enc xi
 |[],x,h,t=> .inl rfl
 |p::l,x,h,t=>by
  unfold joc at h;split at h
  ·rename_i x1 hx;split at h
   ·rename_i y hy;cases h;simp only[qfn,oz];by_cases e:p.1=t
    ·rw[if_pos e,←e];exact .inr ⟨p.2,x1,hx,rfl⟩
    ·rw[if_neg e];exact jjq l y hy t
   ·cases h
  ·cases h
end
end Go.K
namespace Go.K
open Go.M Go.RowKit
section
variable {U : Nat → Prop} {w0 : World} {σ0 : Pl} {K : Nat → Bool} {N : Nat}
theorem jm1{s:TS}{a:Act}{w:World}{σ:Pl}(h:c7 U w0 σ0 K N s a w σ){t off n:Nat}(hK:K t=false){v:Value}(hV:VR (gr U (vw s.H) w σ) (.ownS (.o t) off n) v){ty:TypeId}{fr:Bool}{its:List TypeId}{u:Ty}{xs:List u.den}(ho:s.H[t]? =some (.arr ty (.fz fr) its u xs))(hpos:0<u.sz):
  ∃σ',c7 U w0 σ0 K N ⟨sbS (bh t) s.S,(ci (bh t) s.H).set t (.arr ty (.fz fr) its u ((xs.drop off).take n))⟩ a w σ' ∧VR (gr U (vw ((ci (bh t) s.H).set t (.arr ty (.fz fr) its u ((xs.drop off).take n)))) w σ') (.own (.o t)) v∧∀T:TG,¬T.ob=t→σ' T=σ T:=by
 obtain⟨m,sz,hI,hle,hs⟩:=hV;have hI' :aj (vw s.H) (.o t)=some (m,sz):=hI;simp only[aj,ax ho,Option.map_some,Option.some.injEq,Prod.mk.injEq]at hI';obtain⟨rfl,rfl⟩:=hI';have hxl:((xs.drop off).take n).length=n:=by simp;omega
 have hlt:t<(ci (bh t) s.H).length:=by rw[ck];exact(List.getElem?_eq_some_iff.1 ho).1
 have hat:((ci (bh t) s.H).set t (.arr ty (.fz fr) its u ((xs.drop off).take n)))[t]? =some (.arr ty (.fz fr) its u ((xs.drop off).take n)):=List.getElem?_set_self hlt;obtain⟨pl,hpl⟩:∃pl:Option (Nat×Nat),(∀g o,pl=some (g,o)→∃o',σ (.o t)=some (g,o'))∧SlR w (fun T=>if T= .o t then pl else σ T) (.o t) u.sz 0 n v∧
   (pl=none→n=0)∧∀g o,pl=some (g,o)→∃o',σ (.o t)=some (g,o')∧o=o' +off*u.sz∧∃c cur,w.heap[g]? =some (.cells cur ty (0,0))∧cur.size=o+c*u.sz∧n≤c:=by
  rcases hs with⟨b,rfl,rfl⟩|⟨g,o,c,cur,e,hσ,rfl,hnc,hcm,hh,hsz⟩
  ·exact⟨none,(fun g o e=>by cases e), .inl ⟨b,rfl,rfl⟩,fun _=>rfl,(fun g o e=>by cases e)⟩
  ·have hσ' :σ (.o t)=some (g,o):=hσ;have hob:=h.hr.obj _ _ (ax ho);rw[hσ']at hob;obtain⟨cur',c',h1,_⟩:=hob.cells (.inl hpos);have hh' :w.heap[g]? =some (.cells cur e (0,0)):=hh;have h1' :w.heap[g]? =some (.cells cur' ty (0,0)):=h1;have e1:cur=cur' ∧e=ty:=by rw[hh']at h1';simp only[Option.some.injEq,Obj.cells.injEq]at h1';exact⟨h1'.1,h1'.2.1⟩
   obtain⟨rfl,rfl⟩:=e1;have hsz' :cur.size=o+off*u.sz+c*u.sz:=by rw[hsz,Nat.add_mul];omega
   refine⟨some (g,o+off*u.sz),(fun g' o' e=>by cases e;exact⟨o,hσ'⟩), .inr ⟨g,o+off*u.sz,c,cur,e,by simp,by simp,hnc,hcm,hh,by rw[hsz'];simp⟩,(fun e=>by cases e),fun g' o' e=> ?_⟩;cases e;exact⟨o,hσ',rfl,c,cur,hh',hsz',hnc⟩
 obtain⟨hpl1,hpl2,hpl3,hpl4⟩:=hpl;let σ' :Pl:=fun T=>if T= .o t then pl else σ T
 have hrow:∀i f,vw s.H (.r t i f)=none:=fun i f=>by rw[jj ho,if_neg (by simp[Md.isOwn])]
 have hσr:∀i f,σ (.r t i f)=none:=by
  intro i f;cases hq:σ (.r t i f)with
  |none=>rfl
  |some q=>obtain⟨v0,hv0⟩:=h.hr.dom _ _ hq;rw[hrow]at hv0;cases hv0
 have hVn:∀T:TG,¬T.ob=t→vw ((ci (bh t) s.H).set t (.arr ty (.fz fr) its u ((xs.drop off).take n))) T=(vw s.H T).map (Vw.sb (bh t)):=fun T hT=>by
  rw[du hT];exact qs9 fun i f=>rfl
 have hσn:∀T:TG,¬T.ob=t→σ' T=σ T:=fun T hT=>if_neg fun e=>hT (by rw[e];rfl)
 have hown:∀T g o,T.ob=t→σ' T=some (g,o)→(∃T0 o0,σ T0=some (g,o0))∨w.heap.size≤g:=by
  intro T g o hT hg;cases T with
  |o t' =>
   simp only[TG.ob]at hT;subst hT;simp only[σ',if_true]at hg;obtain⟨o',h1⟩:=hpl1 g o hg;exact .inl ⟨_,o',h1⟩
  |r t' i f=>
   simp only[TG.ob]at hT;subst hT;simp only[σ',reduceCtorEq,if_false]at hg;rw[hσr]at hg;cases hg
 have hm:Mv (bh t) (gr U (vw s.H) w σ) (gr U (vw ((ci (bh t) s.H).set t (.arr ty (.fz fr) its u ((xs.drop off).take n)))) w σ'):=by
  refine Mv.upd h.hr (fun t' =>t' =t) (Nat.le_refl _) hVn hσn (fun _ _ _ _ _=>rfl) (fun _ _ _=>rfl) hown (fun T q hT T' e=> ?_) (fun T T' q hT ht hq=> ?_) (fun T fr u xs q e=> ?_)
  ·cases T with
   |o t' =>simp only[bh]at e;cases hb:Nat.beq t' t<;>rw[hb]at e<;>cases e
   |r t' i f=>simp only[bh]at e;cases e
  ·cases T with
   |o t' =>
    simp only[TG.ob]at hT;subst hT;simp only[bh,Nat.beq_refl,cond_true,reduceCtorEq,false_and,or_self]at ht
   |r t' i f=>
    simp only[TG.ob]at hT;subst hT;simp only[aj,hrow]at hq;cases hq
  ·cases T with
   |o t' =>simp only[bh]at e;cases hb:Nat.beq t' t<;>rw[hb]at e<;>cases e
   |r t' i f=>simp only[bh]at e;cases e
 have hr' :c7 U w0 σ0 K N ⟨sbS (bh t) s.S,(ci (bh t) s.H).set t (.arr ty (.fz fr) its u ((xs.drop off).take n))⟩ a w σ' :=by
  refine ARel.go h hm (fun t' =>ez _ _ _) (h.hr.upd (fun t' =>t' =t) hm hVn hσn (fun _ _ _ _ _=>rfl) (fun T v0 hT hv0=> ?_) (fun T q hT hq=> ?_) hown (fun T T' g o o' h1 h2=> ?_) rfl rfl rfl (fun t' ht' e=>by subst e;rw[hK]at ht';cases ht') (fun t' g o ht' e=>by subst e;rw[hK]at ht';cases ht'))
  ·cases T with
   |r t' i f=>
    simp only[TG.ob]at hT;subst hT;rw[jj hat,if_neg (by simp[Md.isOwn])]at hv0;cases hv0
   |o t' =>
    simp only[TG.ob]at hT;subst hT;rw[ax hat]at hv0;cases hv0;have e0:σ' (.o t')=pl:=if_pos rfl;cases hq:pl with
    |none=>
     rw[e0,hq];show((xs.drop off).take n).length=0;rw[hxl];exact hpl3 hq
    |some q=>
     obtain⟨g,o⟩:=q;rw[e0,hq];obtain⟨o',h1,h2,c,cur,h3,h4,h5⟩:=hpl4 g o hq;have hob:=h.hr.obj _ _ (ax ho);rw[h1]at hob;obtain⟨cur',c',k1,k2,k3,k4⟩:=hob.cells (.inl hpos);have k1' :w.heap[g]? =some (.cells cur' ty (0,0)):=k1;rw[h3]at k1';simp only[Option.some.injEq,Obj.cells.injEq]at k1';obtain⟨rfl,_⟩:=k1';refine .inl ⟨.inl hpos,cur,c,h3,h4,by rw[hxl];exact h5,fun i f hi hf=> ?_⟩;have hi:i<n:=Nat.lt_of_lt_of_eq hi hxl;obtain⟨y,hy,k5,hVy⟩:=k4 (off+i) f (by simp only[];omega) hf;refine⟨y,?_,k5,?_⟩
     ·rw[←hy,h2,Nat.add_mul];congr 1;simp only[];omega
     ·simp only[kf]at hVy⊢;have e:((xs.drop off).take n).getD i u.dft=xs.getD (off+i) u.dft:=by
       simp only[List.getD_eq_getElem?_getD,List.getElem?_take,if_pos hi,List.getElem?_drop]
      rw[e];have h9:=VR.mv hm _ y hVy;rw[Ty.cells_sb]at h9;exact h9
  ·cases T with
   |r t' i f=>
    simp only[TG.ob]at hT;subst hT;simp only[σ',reduceCtorEq,if_false]at hq;rw[hσr]at hq;cases hq
   |o t' =>
    simp only[TG.ob]at hT;subst hT;exact⟨_,ax hat⟩
  ·have key:∀T g o,σ' T=some (g,o)→∃o',σ T=some (g,o'):=by
    intro T g o hT;by_cases e:T= .o t
    ·subst e;simp only[σ',if_true]at hT;exact hpl1 g o hT
    ·simp only[σ',if_neg e]at hT;exact⟨o,hT⟩
   obtain⟨o1,h3⟩:=key T g o h1;obtain⟨o2,h4⟩:=key T' g o' h2;exact h.hr.inj _ _ _ _ _ h3 h4
 have hV' :VR (gr U (vw ((ci (bh t) s.H).set t (.arr ty (.fz fr) its u ((xs.drop off).take n)))) w σ') (.own (.o t)) v:=⟨n,u.sz,by simp only[gr,aj,ax hat,Option.map_some,hxl],hpl2⟩;exact⟨σ',hr',hV',hσn⟩
theorem j0h{s:TS}{a:Act}{w:World}{σ:Pl}(h:c7 U w0 σ0 K N s a w σ){p t off n:Nat}(hp:p<N)(hK:K t=false)(hv:bq s.S p= .ownS (.o t) off n){ty:TypeId}{fr:Bool}{its:List TypeId}{u:Ty}{xs:List u.den}(ho:s.H[t]? =some (.arr ty (.fz fr) its u xs))(hpos:0<u.sz):
  ∃σ',c7 U w0 σ0 K N ⟨(p, .own (.o t))::sbS (bh t) s.S,(ci (bh t) s.H).set t (.arr ty (.fz fr) its u ((xs.drop off).take n))⟩ a w σ' :=by
 obtain⟨v,hav,hV⟩:=h.slot p hp;rw[hv]at hV;obtain⟨σ',hr',hV',_⟩:=jm1 h hK hV ho hpos;refine⟨σ',hr'.defers,hr'.len,fun t' ht' => ?_,hr'.hr⟩;simp only[oz];by_cases e:p=t'
 ·subst e;rw[if_pos rfl];exact⟨v,hav,hV'⟩
 ·rw[if_neg e];exact hr'.slot t' ht'
theorem HR.cell{H:List TOb}{w:World}{σ:Pl}(h:HR U w0 σ0 K (vw H) w σ){tb:Nat}{ty:TypeId}{sz:Nat}{cs:List TV}(ho:H[tb]? =some (.cs ty sz 1 cs)){j:Nat}(hj:j<sz){A:TV}
  (hA:∀g o cur e x,σ (.o tb)=some (g,o)→w.heap[g]? =some (.cells cur e (0,0))→cur[o+j]? =some x→VR (gr U (vw H) w σ) A x):HR U w0 σ0 K (vw (H.set tb (.cs ty sz 1 (cs.set j A)))) w σ:=by
 have hlt:tb<H.length:=(List.getElem?_eq_some_iff.1 ho).1;have hat:(H.set tb (.cs ty sz 1 (cs.set j A)))[tb]? =some (.cs ty sz 1 (cs.set j A)):=List.getElem?_set_self hlt;have hne:∀T:TG,¬T.ob=tb→vw (H.set tb (.cs ty sz 1 (cs.set j A))) T=vw H T:=fun T hT=>du hT
 have hro:∀i f,vw H (.r tb i f)=none:=fun i f=>by simp[vw,ho,vwR]
 have hro' :∀i f,vw (H.set tb (.cs ty sz 1 (cs.set j A))) (.r tb i f)=none:=fun i f=>by simp only[vw,hat,vwR]
 have hO:vw H (.o tb)=some ⟨ty,sz,1,fun i f=>cs.getD (i*sz+f) .any⟩:=by simp[vw,ho,vwO]
 have hO' :vw (H.set tb (.cs ty sz 1 (cs.set j A))) (.o tb)=some ⟨ty,sz,1,fun i f=>(cs.set j A).getD (i*sz+f) .any⟩:=by simp only[vw,hat,vwO]
 have hinfo:aj (vw (H.set tb (.cs ty sz 1 (cs.set j A))))=aj (vw H):=by
  funext T;by_cases e:T.ob=tb
  ·cases T with
   |o t=>simp only[TG.ob]at e;subst e;simp only[aj,hO,hO',Option.map_some]
   |r t i f=>simp only[TG.ob]at e;subst e;simp only[aj,hro,hro']
  ·simp only[aj,hne T e]
 have hgr:gr U (vw (H.set tb (.cs ty sz 1 (cs.set j A)))) w σ=gr U (vw H) w σ:=by simp only[gr,hinfo]
 refine⟨h.inj,fun T p hp=> ?_,fun T v hv=> ?_,h.own,h.os,h.tape,h.output,h.size,h.blk,h.keep,h.ksz,h.ulow,h.tb0⟩
 ·obtain⟨v,hv⟩:=h.dom T p hp;by_cases e:T.ob=tb
  ·cases T with
   |o t=>simp only[TG.ob]at e;subst e;exact⟨_,hO'⟩
   |r t i f=>simp only[TG.ob]at e;subst e;rw[hro]at hv;cases hv
  ·exact⟨v,by rw[hne T e];exact hv⟩
 ·rw[hgr];by_cases e:T.ob=tb
  ·cases T with
   |r t i f=>simp only[TG.ob]at e;subst e;rw[hro']at hv;cases hv
   |o t=>
    simp only[TG.ob]at e;subst e;rw[hO']at hv;cases hv;have h0:=h.obj _ _ hO;cases hs:σ (.o t)with
    |none=>rw[hs]at h0;exact h0
    |some q=>
     obtain⟨g,o⟩:=q;rw[hs]at h0;obtain⟨cur,c,k1,k2,k3,k4⟩:=h0.cells (.inr Nat.one_pos);refine .inl ⟨.inr Nat.one_pos,cur,c,k1,k2,k3,fun i f hi hf=> ?_⟩;have hi0:i=0:=by simp only at hi;omega
     subst hi0;obtain⟨x,hx,k5,hVx⟩:=k4 0 f (by simp) hf;refine⟨x,hx,k5,?_⟩;simp only[Nat.zero_mul,Nat.zero_add]at hx hVx⊢;by_cases ef:f=j
     ·subst ef;by_cases hl:f<cs.length
      ·rw[List.getD_eq_getElem?_getD,List.getElem?_set_self hl];exact hA g o cur ty x hs k1 hx
      ·rw[List.getD_eq_getElem?_getD,List.getElem?_eq_none (by simp;omega)]
       trivial
     ·rw[List.getD_eq_getElem?_getD,List.getElem?_set_ne (Ne.symm ef),←List.getD_eq_getElem?_getD];exact hVx
  ·rw[hne T e]at hv;exact h.obj T v hv
theorem jvw{kp:List Bool}(hK:∀t,br kp t=false→K t=false){s:TS}{a:Act}{w:World}{σ:Pl}(h:c7 U w0 σ0 K N s a w σ)(tb j:Nat):∃σ',c7 U w0 σ0 K N (j0f kp tb j s) a w σ' :=by
 unfold j0f;split
 ·rename_i ty sz n cs hb;split
  ·rename_i t off m hv;split
   ·rename_i ty2 fr its u xs ho;cases hc:(!br kp t&&Nat.beq n 1&&Nat.blt j sz&& !Nat.beq t tb&&Nat.blt 0 u.sz)with
    |false=>exact⟨σ,h⟩
    |true=>
     simp only[Bool.and_eq_true,Bool.not_eq_true']at hc;obtain⟨⟨⟨⟨c1,c2⟩,c3⟩,c4⟩,c5⟩:=hc;have hn:=aw c2;subst hn;have hj:=cz c3;have htb:¬tb=t:=fun e=>by subst e;rw[Nat.beq_refl]at c4;cases c4
     have hO:vw s.H (.o tb)=some ⟨ty,sz,1,fun i f=>cs.getD (i*sz+f) .any⟩:=by simp[vw,hb,vwO]
     have h0:=h.hr.obj _ _ hO;cases hs:σ (.o tb)with
     |none=>rw[hs]at h0;cases h0
     |some q=>
      obtain⟨g,o⟩:=q;rw[hs]at h0;obtain⟨cur,c,k1,k2,k3,k4⟩:=h0.cells (.inr Nat.one_pos);obtain⟨x,hx,k5,hVx⟩:=k4 0 j (by simp) hj;simp only[Nat.zero_mul,Nat.zero_add]at hx hVx;rw[hv]at hVx;obtain⟨σ',hr',hV',hσ'⟩:=jm1 h (hK t c1) hVx ho (cz c5);have hb' :((ci (bh t) s.H).set t (.arr ty2 (.fz fr) its u ((xs.drop off).take m)))[tb]? =some (.cs ty sz 1 (TV.sbL (bh t) cs)):=by
       rw[List.getElem?_set_ne (Ne.symm htb),fp,hb];rfl
      refine⟨σ',?_⟩;have hh:=HR.cell hr'.hr hb' hj (A:= .own (.o t)) (fun g' o' cur' e x' e1 e2 e3=>by
       rw[hσ' (.o tb) htb,hs]at e1;cases e1;have k1' :w.heap[g]? =some (.cells cur ty (0,0)):=k1;rw[k1']at e2;simp only[Option.some.injEq,Obj.cells.injEq]at e2;obtain⟨rfl,_⟩:=e2;rw[hx]at e3;cases e3;exact hV')
      have hgr:gr U (vw (((ci (bh t) s.H).set t (.arr ty2 (.fz fr) its u ((xs.drop off).take m))).set tb (.cs ty sz 1 ((TV.sbL (bh t) cs).set j (.own (.o t)))))) w σ' =gr U (vw ((ci (bh t) s.H).set t (.arr ty2 (.fz fr) its u ((xs.drop off).take m)))) w σ' :=by
       have hlt:tb<((ci (bh t) s.H).set t (.arr ty2 (.fz fr) its u ((xs.drop off).take m))).length:=(List.getElem?_eq_some_iff.1 hb').1;simp only[gr,Gr.mk.injEq,true_and];funext T;by_cases e:T.ob=tb
       ·cases T with
        |o t' =>simp only[TG.ob]at e;subst e;simp only[aj,vw,List.getElem?_set_self hlt,hb',vwO,Option.map_some]
        |r t' i f=>simp only[TG.ob]at e;subst e;simp only[aj,vw,List.getElem?_set_self hlt,hb',vwR]
       ·simp only[aj,du e]
      refine⟨hr'.defers,hr'.len,fun t' ht' => ?_,hh⟩;obtain⟨y,hy,hVy⟩:=hr'.slot t' ht';refine⟨y,hy,?_⟩;simp only[cond_true];rw[hgr];exact hVy
   ·exact⟨σ,h⟩
  ·exact⟨σ,h⟩
 ·exact⟨σ,h⟩
theorem q7u{kp:List Bool}(hK:∀t,br kp t=false→K t=false){a:Act}{w:World}(tb:Nat):∀(l:List TV) (j:Nat) {s:TS} {σ:Pl},c7 U w0 σ0 K N s a w σ→∃σ',c7 U w0 σ0 K N (jmz kp tb j l s) a w σ'
 |[],j,s,σ,h=>⟨σ,h⟩
 |v::l,j,s,σ,h=>by
  unfold jmz;cases js6 v with
  |true=>obtain⟨σ1,h1⟩:=jvw hK h tb j;exact q7u hK tb l (j+1) h1
  |false=>exact q7u hK tb l (j+1) h
theorem qkq{kp:List Bool}(hK:∀t,br kp t=false→K t=false){a:Act}{w:World}:∀(l:List TOb) (tb:Nat) {s:TS} {σ:Pl},c7 U w0 σ0 K N s a w σ→∃σ',c7 U w0 σ0 K N (jm0 kp tb l s) a w σ'
 |[],tb,s,σ,h=>⟨σ,h⟩
 | .cs _ _ _ cs::l,tb,s,σ,h=>by
  obtain⟨σ1,h1⟩:=q7u hK tb cs 0 h;exact qkq hK l (tb+1) h1
 | .arr _ _ _ _ _::l,tb,s,σ,h=>qkq hK l (tb+1) h
 | .mp _ _ _::l,tb,s,σ,h=>qkq hK l (tb+1) h
 | .mo _ _ _ _ _::l,tb,s,σ,h=>qkq hK l (tb+1) h
 | .gone::l,tb,s,σ,h=>qkq hK l (tb+1) h
theorem jvx{kp:List Bool}(hK:∀t,br kp t=false→K t=false){s:TS}{a:Act}{w:World}{σ:Pl}(h:c7 U w0 σ0 K N s a w σ)(p:Nat):∃σ',c7 U w0 σ0 K N (j0g N kp p s) a w σ' :=by
 unfold j0g;split
 ·rename_i t off n hv;split
  ·rename_i ty fr its u xs ho;cases hb:(!br kp t&&Nat.blt p N&&Nat.blt 0 u.sz)with
   |false=>exact⟨σ,h⟩
   |true=>
    simp only[Bool.and_eq_true,Bool.not_eq_true']at hb;exact j0h h (cz hb.1.2) (hK t hb.1.1) hv ho (cz hb.2)
  ·exact⟨σ,h⟩
 ·exact⟨σ,h⟩
theorem sk{kp:List Bool}(hK:∀t,br kp t=false→K t=false){a:Act}{w:World}:∀(l:List (Nat×Sh)) {s:TS} {σ:Pl},c7 U w0 σ0 K N s a w σ→∃σ',c7 U w0 σ0 K N (jsb N kp l s) a w σ'
 |[],s,σ,h=>⟨σ,h⟩
 |(p, .own i)::l,s,σ,h=>by
  obtain⟨σ1,h1⟩:=jvx hK h p;exact sk hK l h1
 |(p, .d _ _)::l,s,σ,h=>sk hK l h
 |(p, .rp _ _)::l,s,σ,h=>sk hK l h
 |(p, .kid _ _)::l,s,σ,h=>sk hK l h
 |(p, .ptr _)::l,s,σ,h=>sk hK l h
 |(p, .mp _)::l,s,σ,h=>sk hK l h
 |(p, .dm _ _ _)::l,s,σ,h=>sk hK l h
 |(p, .it)::l,s,σ,h=>sk hK l h
 |(p, .e)::l,s,σ,h=>sk hK l h
 |(p, .fn _ _)::l,s,σ,h=>sk hK l h
 |(p, .agg _)::l,s,σ,h=>sk hK l h
 |(p, .nl _ _)::l,s,σ,h=>sk hK l h
 |(p, .nf _)::l,s,σ,h=>sk hK l h
theorem Shp.dec_ok{kp:List Bool}(hK:∀t,br kp t=false→K t=false){h:Shp}{s:TS}{x:h.den}(hd:h.dec N kp s=some x){a:Act}{w:World}{σ:Pl}(hr:c7 U w0 σ0 K N s a w σ):∃σ',c7 U w0 σ0 K N (h.enc x) a w σ' :=by
 unfold Shp.dec at hd;obtain⟨hkp,hd⟩:=ai hd;obtain⟨σ00,hr0⟩:=sk hK h.sl hr;obtain⟨σ1,hr1⟩:∃σ1,c7 U w0 σ0 K N (jpm N kp h s) a w σ1:=by
  unfold jpm;cases js1 h.hp with
  |true=>exact qkq hK s.H 0 hr0
  |false=>exact⟨σ00,hr0⟩
 generalize hs1:jpm N kp h s=s1 at*;generalize h.rho kp s1=ρ at*;unfold Shp.decR at hd;obtain⟨hok,hd⟩:=ai hd;split at hd
 ·rename_i xs hxs;split at hd
  ·rename_i y hy;cases hd;obtain⟨hcv,hHR⟩:=j5m hK hr1.hr hok hkp hy;refine⟨mi ρ σ1,hr1.defers,hr1.len,fun t ht=> ?_,hHR⟩;obtain⟨v,hv,hV⟩:=hr1.slot t ht;refine⟨v,hv,?_⟩;rcases jjq h.sl xs hxs t with e|⟨sh,xi,e1,e2⟩
   ·show VR _ (bq (qfn h.sl xs) t) v;rw[e]
    trivial
   ·show VR _ (bq (qfn h.sl xs) t) v;rw[e2];exact Sh.dec_ok hcv sh _ xi e1 v hV
  ·cases hd
 ·cases hd
end
end Go.K
namespace Go.K
open Go.M Go.RowKit
inductive Ann where
 | z
 | s (n : Nat)
 | d (bg rs τ : List Nat)
 | one (a : Ann)
 | two (a b : Ann)
 | u (n : Nat) (a : Ann)
 | ad (bg rs : List Nat)
 | nm (sh : Shp) (a : Ann)
def Ann.l:Ann→Ann
 | .two a _=>a
 | .one a=>a
 |_=> .z
def Ann.r:Ann→Ann
 | .two _ b=>b
 |_=> .z
def Ann.sum:Ann→Option Nat
 | .s n=>some n
 |_=>none
def Ann.unr:Ann→Option (Nat×Ann)
 | .u n a=>some (n,a)
 | .nm _ (.u n a)=>some (n,a)
 |_=>none
def jmd:Code→List Bool→Code
 |c,[]=>c
 | .seq x _,false::p=>jmd x p
 | .seq _ y,true::p=>jmd y p
 | .cond _ x _,false::p=>jmd x p
 | .cond _ _ y,true::p=>jmd y p
 | .block _ x,_::p=>jmd x p
 | .loop x,_::p=>jmd x p
 |c,_=>c
def qe1(f:Func):Code:=match f.body with|some c=>c|none=> .skip
section
variable {R Rf : Type}
def jl6:List St→List Nat
 |[]=>[]
 | .set t _::l=>t::jl6 l
 |_::l=>jl6 l
def jxj(X:Ctx Rf)(bg rs:List Nat)(recs:List En):List Oper→Nat→TS→List Nat
 |[],_,_=>[]
 |o::rest,i,s=>
  bif tc i rs then
   match qin X o.op (fun x=>qk2 (zR bg i recs) (evT X.N s.S x)) (qs8 (zR bg i recs) s.H) (fun δ v=>some (jl6 δ,(s.aps δ).put o.dst v))with
   |some (l,s')=>l++jxj X bg rs recs rest (i+1) s'
   |none=>jxj X bg rs recs rest (i+1) s
  else jxj X bg rs recs rest (i+1) s
def j7p(X:Ctx Rf)(ops:List Oper)(bg rs:List Nat)(s:TS):List Nat:=
 match jca X ops bg rs [] ops 0 s.S s.H [] (fun S H recs=>some (jxj X bg rs recs ops 0 ⟨S,H⟩))with|some l=>l|none=>[]
def j4e(X:Ctx Rf)(ops:List Oper)(bg rs:List Nat)(s:TS)(k:TS→Option R):Option R:=
 match jsk X ops bg rs [] s some with
 |some s' =>k s'
 |none=>jsk X ops bg rs (j7p X ops bg rs s) s k
def j3b(X:Ctx Rf)(l:List Oper)(draw:Bool)(a:Ann)(s:TS)(k:TS→Option R):Option R:=
 match draw with
 |false=>jgu X l l s k
 |true=>match a with| .d bg rs τ=>jsk X l bg rs τ s k| .ad bg rs=>j4e X l bg rs s k|_=>none
def j22(N:Nat)(kp:List Bool)(a:Ann)(s:TS):Option TS:=
 match a with
 | .nm sh _=>match sh.dec N kp s with|some x=>some (sh.enc x)|none=>none
 |_=>some s
def jxm(f:TS→(TS→Option R)→Option R):Nat→TS→Option R
 |0,_=>none
 |n+1,s=>f s (jxm f n)
def den(X:Ctx Rf):Code→Ann→TS→(TS→Option R)→(Nat→TS→Option R)→(Rf→Option R)→Option R
 |c,a,s,kn,ke,kr=>
  match a.sum with
  |some n=>
   match X.Λ n with
   |some σ=>match σ.dec s with|some x=>bnd (σ.m x) (fun o=>σ.cont x o kn ke kr)|none=>none
   |none=>none
  |none=>
   match c with
   | .skip=>kn s
   | .region _ ops d=>j3b X ops.toList d a s kn
   | .seq x y=>den X x a.l s (fun s' =>den X y a.r s' kn ke kr) ke kr
   | .cond c x y=>match evT X.N s.S c with| .bool g=>bif g then den X x a.l s kn ke kr else den X y a.r s kn ke kr|_=>none
   | .block id x=>den X x a.l s kn (fun id' s' =>bif Nat.beq id' id then kn s' else ke id' s') kr
   | .loop x=>match a.unr with|some (n,b)=>(match j22 X.N X.kp a s with|some s=>jxm (fun s k=>den X x b s k ke kr) n s|none=>none)|none=>none
   | .exit id=>ke id s
   | .ret=>match X.res s with|some r=>kr r|none=>none
   |_=>none
end
section
variable {U : Nat → Prop} {w0 : World} {σ0 : Pl} {K : Nat → Bool} {N : Nat} {P : Program} {R Rf : Type}
def CW(P:Program)(U:Nat→Prop)(w0:World)(σ0:Pl)(K:Nat→Bool)(N:Nat)(c:Code)(Q:Exit→TS→Prop)(s:TS):Prop:=
 ∀a w σ,c7 U w0 σ0 K N s a w σ→c.wp P (fun e a' w' =>∃s' σ',c7 U w0 σ0 K N s' a' w' σ' ∧Q e s') a w
def jmj(X:Ctx Rf)(kn:TS→Option R)(ke:Nat→TS→Option R)(kr:Rf→Option R)(r:R):Exit→TS→Prop
 | .normal,s' =>kn s' =some r
 | .exit id,s' =>ke id s' =some r
 | .ret,s' =>∃x,X.res s' =some x∧kr x=some r
 |_,_=>False
def q66(X:Ctx Rf)(K:Nat→Bool):Prop:=∀t,br X.kp t=false→K t=false
def ao(P:Program)(X:Ctx Rf)(n:Nat)(c:Code):Prop:=
 ∀σ,X.Λ n=some σ→∀(U:Nat→Prop) (w0:World) (σ0:Pl) (K:Nat→Bool),q66 X K→∀(R:Type) (s:TS) (x:σ.A) (o:σ.O) (kn:TS→Option R) (ke:Nat→TS→Option R) (kr:Rf→Option R) (r:R),
  σ.dec s=some x→σ.m x=some o→σ.cont x o kn ke kr=some r→CW P U w0 σ0 K X.N c (jmj X kn ke kr r) s
def po:Code→Ann→List (Nat×Code)
 |c,a=>
  match a.sum with
  |some n=>[(n,c)]
  |none=>
   match c with
   | .seq x y=>po x a.l++po y a.r
   | .cond _ x y=>po x a.l++po y a.r
   | .block _ x=>po x a.l
   | .loop x=>match a.unr with|some (_,b)=>po x b|none=>[]
   |_=>[]
theorem jgf{X:Ctx Rf}(hX:CtxOK P X)(hK:q66 X K){o:Oper}{s:TS}{k:TS→Option R}{r:R}(h:opT X o s k=some r){a:Act}{w:World}{σ:Pl}(hr:c7 U w0 σ0 K X.N s a w σ){Q:Exit→Act→World→Prop}{KK:Act→World→Prop}
  (hKK:∀s' a' w' σ',c7 U w0 σ0 K X.N s' a' w' σ' →k s' =some r→KK a' w'):o.wp P a w KK Q:=by
 unfold opT at h;obtain⟨δ,v,hk,hdo⟩:=q61 (F:=fun _=>True) hX hr (HLe.refl s.H) hK (fun x _=>hr.ev x) (fun _ _ _ _ _ _=>trivial) h;exact hdo Q KK fun a' w' σ' h' =>hKK _ a' w' σ' h' hk
theorem jn6{X:Ctx Rf}(hX:CtxOK P X)(hK:q66 X K){all:List Oper}{k:TS→Option R}{r:R}{Q:Exit→Act→World→Prop}(hQ:∀s' a' w' σ',c7 U w0 σ0 K X.N s' a' w' σ' →k s' =some r→Q .normal a' w'):
  ∀(l:List Oper) (s:TS) (a:Act) (w:World) (σ:Pl),c7 U w0 σ0 K X.N s a w σ→jgu X all l s k=some r→wpList P all.toArray Q l a w:=by
 intro l
 induction l with
 |nil=>intro s a w σ hr h;exact hQ s a w σ hr h
 |cons o rest ih=>
  intro s a w σ hr h;unfold jgu juu at h;split at h
  ·rename_i hg;exact wpList_plain hg fun K' hK' =>jgf hX hK h hr fun s' a' w' σ' h' hk=>hK' _ _ (ih s' a' w' σ' h' hk)
  ·rename_i g hg;obtain⟨S1,hext,hcase⟩:=qnm hg h;have hr1:c7 U w0 σ0 K X.N ⟨S1,s.H⟩ a w σ:=c7.ext (s:=s) (s' :=⟨S1,s.H⟩) ⟨rfl,fun t=>(hext t).symm⟩ hr;refine wpList_step fun K' hK' => ?_
   rcases hcase with⟨hw,h1⟩|⟨hw,h1⟩
   ·rw[yn hr hw];simp only[if_true];exact jgf hX hK h1 hr1 fun s' a' w' σ' h' hk=>hK' _ _ (ih s' a' w' σ' h' hk)
   ·rw[yn hr hw];simp only[Bool.false_eq_true,if_false];exact hK' _ _ (ih _ _ _ σ (hr1.put o.dst (A:= .undef) (v:=undef) (by simp[VR])) h1)
theorem jw0{X:Ctx Rf}(hX:CtxOK P X)(hmix:P.follows .mixedOrders=true)(hK:q66 X K){id:Nat}{l:List Oper}{d:Bool}{an:Ann}{s:TS}{k:TS→Option R}{r:R}(h:j3b X l d an s k=some r){Q:Exit→TS→Prop}(hQ:∀s',k s' =some r→Q .normal s'):
  CW P U w0 σ0 K X.N (.region id l.toArray d) Q s:=by
 intro a w σ hr;unfold j3b at h;split at h
 ·refine wp_region_lit ?_;exact jn6 hX hK (fun s' a' w' σ' h' hk=>⟨s',σ',h',hQ s' hk⟩) l s a w σ hr h
 ·split at h
  ·exact jfe hX hmix hK h (fun s' a' w' σ' h' hk=>⟨s',σ',h',hQ s' hk⟩) hr
  ·unfold j4e at h;split at h
   ·rename_i s1 h1;exact jfe hX hmix hK h1 (fun s' a' w' σ' h' hk=>by cases hk;exact⟨_,σ',h',hQ _ h⟩) hr
   ·exact jfe hX hmix hK h (fun s' a' w' σ' h' hk=>⟨s',σ',h',hQ s' hk⟩) hr
  ·cases h
theorem CW.mono{c:Code}{Q Q' :Exit→TS→Prop}{s:TS}(hq:∀e s,Q e s→Q' e s)(h:CW P U w0 σ0 K N c Q s):CW P U w0 σ0 K N c Q' s:=
 fun a w σ hr=>Code.wp_mono (fun _ _ _ ⟨s',σ',h1,h2⟩=>⟨s',σ',h1,hq _ _ h2⟩) (h a w σ hr)
theorem CW.loop{ι:Type}{body:Code}{Q:Exit→TS→Prop}(I:ι→TS)(ok:ι→Prop)(μ:ι→Nat)
  (round:∀i,ok i→∀a w σ,c7 U w0 σ0 K N (I i) a w σ→body.wp P (fun e a' w' =>match e with| .normal=>∃j σ',ok j∧μ j<μ i∧c7 U w0 σ0 K N (I j) a' w' σ' |e=>∃s' σ',c7 U w0 σ0 K N s' a' w' σ' ∧Q e s') a w):
  ∀i0,ok i0→CW P U w0 σ0 K N (.loop body) Q (I i0):=by
 intro i0 h0 a w σ hr
 suffices H:∀n i a w σ,ok i→μ i=n→c7 U w0 σ0 K N (I i) a w σ→∀b k cs,∃e a' w',(∃s' σ',c7 U w0 σ0 K N s' a' w' σ' ∧Q e s')∧Arrives P (lone (b.at a (.code body:: .inLoop body::k)) cs w) b k cs e a' w' by
  intro b k cs;obtain⟨e,a',w',hq,harr⟩:=H (μ i0) i0 a w σ h0 rfl hr b k cs;exact⟨e,a',w',hq, .of_steps (.one step_loop) harr⟩
 intro n
 induction n using Nat.strongRecOn with
 |_ n ih=>
  intro i a w σ hok hn hrel b k cs;obtain⟨e,a₁,w₁,hq,harr⟩:=round i hok a w σ hrel b (.inLoop body::k) cs;cases e with
  |normal=>
   obtain⟨j,σ2,hj,hlt,hr2⟩:=hq;obtain⟨e,a',w',hq',harr'⟩:=ih (μ j) (hn▸hlt) j a₁ w₁ σ2 hj rfl hr2 b k cs;exact⟨e,a',w',hq', .of_steps (Steps.trans harr (.one step_inLoop)) harr'⟩
  |exit id=>exact⟨_,a₁,w₁,hq,fun k' hk=>harr k' (by simpa[exitTo]using hk)⟩
  |goto l=>exact⟨_,a₁,w₁,hq,fun k' hk=>harr k' (by simpa[gotoIn]using hk)⟩
  |ret=>exact⟨_,a₁,w₁,hq,harr⟩
  |panic chain=>exact⟨_,a₁,w₁,hq,harr⟩
  |outgrown=>exact⟨_,a₁,w₁,hq,harr⟩
theorem j23{X:Ctx Rf}(hK:q66 X K){a:Ann}{s s' :TS}(h:j22 X.N X.kp a s=some s'){c:Code}{Q:Exit→TS→Prop}(hc:CW P U w0 σ0 K X.N c Q s'):CW P U w0 σ0 K X.N c Q s:=by
 unfold j22 at h;split at h
 ·split at h
  ·rename_i x hx;cases h;intro a1 w1 σ1 hr;obtain⟨σ2,hr2⟩:=Shp.dec_ok hK hx hr;exact hc a1 w1 σ2 hr2
  ·cases h
 ·cases h;exact hc
theorem qw4{α β:Type}{m:Option α}{f:α→Option β}{r:β}(h:bnd m f=some r):∃x,m=some x∧f x=some r:=by
 cases m with
 |none=>cases h
 |some x=>exact⟨x,rfl,h⟩
theorem q7v{X:Ctx Rf}(hX:CtxOK P X)(hmix:P.follows .mixedOrders=true)(hK:q66 X K){r:R}:∀(c:Code) (a:Ann) (s:TS) (kn:TS→Option R) (ke:Nat→TS→Option R) (kr:Rf→Option R),
  (∀p∈po c a,ao P X p.1 p.2)→den X c a s kn ke kr=some r→CW P U w0 σ0 K X.N c (jmj X kn ke kr r) s:=by
 intro c
 induction c with
 |skip=>
  intro a s kn ke kr hs h;unfold den at h;split at h
  ·rename_i n hn;exact summ hs hn h
  ·exact fun a w σ hr=>wp_skip ⟨s,σ,hr,h⟩
 |region id ops d=>
  intro a s kn ke kr hs h;unfold den at h;split at h
  ·rename_i n hn;exact summ hs hn h
  ·have:=jw0 (id:=id) (U:=U) (w0:=w0) (σ0:=σ0) hX hmix hK h (Q:=jmj X kn ke kr r) (fun s' hk=>hk);simpa using this
 |seq x y ihx ihy=>
  intro a s kn ke kr hs h;unfold den at h;split at h
  ·rename_i n hn;exact summ hs hn h
  ·rename_i hn;have hsum:po (.seq x y) a=po x a.l++po y a.r:=by conv=>lhs;unfold po;simp only[hn]
   rw[hsum]at hs;have hx:=ihx a.l s _ ke kr (fun p hp=>hs p (List.mem_append_left _ hp)) h;intro a1 w1 σ1 hr;refine wp_seq (Code.wp_mono ?_ (hx a1 w1 σ1 hr));rintro e a' w' ⟨s',σ',h1,h2⟩;cases e with
   |normal=>exact ihy a.r s' kn ke kr (fun p hp=>hs p (List.mem_append_right _ hp)) h2 a' w' σ' h1
   |exit id=>exact⟨s',σ',h1,h2⟩
   |ret=>exact⟨s',σ',h1,h2⟩
   |_=>exact h2.elim
 |cond c x y ihx ihy=>
  intro a s kn ke kr hs h;unfold den at h;split at h
  ·rename_i n hn;exact summ hs hn h
  ·rename_i hn;have hsum:po (.cond c x y) a=po x a.l++po y a.r:=by conv=>lhs;unfold po;simp only[hn]
   rw[hsum]at hs;simp only[]at h;split at h
   ·rename_i g hg;intro a1 w1 σ1 hr;have hv:=hr.ev c;rw[hg]at hv;simp only[VR]at hv;refine wp_cond_split hv (fun hb=> ?_) (fun hb=> ?_)
    ·subst hb;exact ihx a.l s kn ke kr (fun p hp=>hs p (List.mem_append_left _ hp)) h a1 w1 σ1 hr
    ·subst hb;exact ihy a.r s kn ke kr (fun p hp=>hs p (List.mem_append_right _ hp)) h a1 w1 σ1 hr
   ·cases h
 |block id x ih=>
  intro a s kn ke kr hs h;unfold den at h;split at h
  ·rename_i n hn;exact summ hs hn h
  ·rename_i hn;have hsum:po (.block id x) a=po x a.l:=by conv=>lhs;unfold po;simp only[hn]
   rw[hsum]at hs;have hx:=ih a.l s _ _ kr hs h;intro a1 w1 σ1 hr;refine wp_block (Code.wp_mono ?_ (hx a1 w1 σ1 hr));rintro e a' w' ⟨s',σ',h1,hp⟩;cases e with
   |normal=>exact⟨s',σ',h1,hp⟩
   |exit id' =>
    have hk:(bif Nat.beq id' id then kn s' else ke id' s')=some r:=hp;simp only[Exit.inBlock];by_cases he:id' =id
    ·subst he;rw[if_pos rfl];simp only[Nat.beq_refl,cond_true]at hk;exact⟨s',σ',h1,hk⟩
    ·rw[if_neg he];rw[qjh he]at hk;exact⟨s',σ',h1,hk⟩
   |ret=>exact⟨s',σ',h1,hp⟩
   |_=>exact hp.elim
 |exit id=>
  intro a s kn ke kr hs h;unfold den at h;split at h
  ·rename_i n hn;exact summ hs hn h
  ·exact fun a w σ hr=>wp_exit ⟨s,σ,hr,h⟩
 |ret=>
  intro a s kn ke kr hs h;unfold den at h;split at h
  ·rename_i n hn;exact summ hs hn h
  ·simp only[]at h;split at h
   ·rename_i x hx;exact fun a w σ hr=>wp_ret ⟨s,σ,hr,x,hx,h⟩
   ·cases h
 |loop x ih=>
  intro a s kn ke kr hs h;unfold den at h;split at h
  ·rename_i n hn;exact summ hs hn h
  ·rename_i hn;cases hu:a.unr with
   |none=>rw[hu]at h;cases h
   |some p=>
    obtain⟨n,b⟩:=p;rw[hu]at h;have hsum:po (.loop x) a=po x b:=by conv=>lhs;unfold po;simp only[hn,hu]
    rw[hsum]at hs;simp only at h;split at h
    case h_2=>cases h
    rename_i s0 hs0;refine j23 hK hs0 ?_;refine CW.loop (ι:=Nat×TS) (fun p=>p.2) (fun p=>jxm (fun s k=>den X x b s k ke kr) p.1 p.2=some r) (fun p=>p.1) ?_ (n,s0) h;rintro⟨m,s1⟩ hm a1 w1 σ1 hr;cases m with
    |zero=>cases hm
    |succ m=>
     have hx:=ih b s1 (jxm (fun s k=>den X x b s k ke kr) m) ke kr hs hm a1 w1 σ1 hr;refine Code.wp_mono ?_ hx;rintro e a' w' ⟨s',σ',h1,h2⟩;cases e with
     |normal=>exact⟨(m,s'),σ',h2,Nat.lt_succ_self m,h1⟩
     |exit id=>exact⟨s',σ',h1,h2⟩
     |ret=>exact⟨s',σ',h1,h2⟩
     |_=>exact h2.elim
 |_=>
  intro a s kn ke kr hs h;unfold den at h;split at h
  ·rename_i n hn;exact summ hs hn h
  ·cases h
 where
 summ {c:Code} {a:Ann} {s:TS} {kn:TS→Option R} {ke:Nat→TS→Option R} {kr:Rf→Option R} {n:Nat} (hs:∀p∈po c a,ao P X p.1 p.2) (hn:a.sum=some n)
   (h:(match X.Λ n with|some σ=>(match σ.dec s with|some x=>bnd (σ.m x) (fun o=>σ.cont x o kn ke kr)|none=>none)|none=>none)=some r):CW P U w0 σ0 K X.N c (jmj X kn ke kr r) s:=by
  have hm:(n,c)∈po c a:=by
   unfold po;simp[hn]
  split at h
  ·rename_i σ hσ;split at h
   ·rename_i x hx;obtain⟨o,ho,hc⟩:=qw4 h;exact hs (n,c) hm σ hσ U w0 σ0 K hK R s x o kn ke kr r hx ho hc
   ·cases h
  ·cases h
end
end Go.K
namespace Go.K
open Go.M Go.RowKit
section
variable {P : Program} {Rf : Type}
def am(Rf:Type)(N:Nat)(kp:List Bool)(shI:Shp){C S:Type}(un:shI.den→C×S)(shE:Shp){CE E:Type}(mkE:CE→E→shE.den)(pE:C→CE)
  (stepK:{R:Type}→C→S→(S→Option R)→(E→Option R)→(Rf→Option R)→Option R):Summ Rf where
 A:=C×S
 O:=E⊕Rf
 dec:=fun s=>match shI.dec N kp s with|some x=>some (un x)|none=>none
 m:=fun x=>bt (fun a=>stepK x.1 a (fun a' =>some (.next a')) (fun e=>some (.done e)) (fun r=>some (.ret r))) x.2
 cont:=fun x o kn _ kr=>lk o (fun e=>kn (shE.enc (mkE (pE x.1) e))) kr
variable {U : Nat → Prop} {w0 : World} {σ0 : Pl} {K : Nat → Bool} {N : Nat}
theorem jwl{X:Ctx Rf}(hX:CtxOK P X)(hmix:P.follows .mixedOrders=true){n id:Nat}{body:Code}{ann:Ann}(hs:∀p∈po body ann,ao P X p.1 p.2)
  {shI shE:Shp} {C S CE E:Type} {un:shI.den→C×S} {mk:C→S→shI.den} {unE:shE.den→CE×E} {mkE:CE→E→shE.den} {pE:C→CE}
  {stepK:{R:Type}→C→S→(S→Option R)→(E→Option R)→(Rf→Option R)→Option R}
  (hΛ:X.Λ n=some (am Rf X.N X.kp shI un shE mkE pE stepK)) (hmk:∀x,mk (un x).1 (un x).2=x) (hmkE:∀y,mkE (unE y).1 (unE y).2=y)
  (hpar:∀(R:Type) (K:C→S→Option R) (D:CE→E→Option R) (T:Rf→Option R) (c:C) (a:S),
   den X body ann (shI.enc (mk c a)) (fun s' =>match shI.dec X.N X.kp s' with|some x=>K (un x).1 (un x).2|none=>none)
    (fun id' s' =>bif Nat.beq id' id then(match shE.dec X.N X.kp s' with|some y=>D (unE y).1 (unE y).2|none=>none)else none) T=stepK c a (K c) (D (pE c)) T):
  ao P X n (.block id (.loop body)):=by
 intro σ hσ;rw[hΛ]at hσ;cases hσ;intro U w0 σ0 K hK R s x o kn ke kr r hdec hm hcont;obtain⟨c,a0⟩:=x;simp only[am]at hdec hm hcont;cases hx:shI.dec X.N X.kp s with
 |none=>rw[hx]at hdec;cases hdec
 |some x=>
  rw[hx]at hdec;simp only[Option.some.injEq]at hdec;have hxe:x=mk c a0:=by
   have e:=hmk x;rw[hdec]at e;exact e.symm
  intro av w σ hr;obtain⟨σ1,hr1⟩:=Shp.dec_ok hK hx hr;rw[hxe]at hr1;have hround:∀p:Nat×S,qvx (fun a=>stepK c a (fun a' =>some (.next a')) (fun e=>some (.done e)) (fun r=>some (.ret r))) p.1 p.2=some o→∀a w σ,c7 U w0 σ0 K X.N (shI.enc (mk c p.2)) a w σ→
    body.wp P (fun e a' w' =>match e with
     | .normal=>∃(j:Nat×S) (σ' :Pl),qvx (fun a=>stepK c a (fun a' =>some (.next a')) (fun e=>some (.done e)) (fun r=>some (.ret r))) j.1 j.2=some o∧j.1<p.1∧c7 U w0 σ0 K X.N (shI.enc (mk c j.2)) a' w' σ'
     |e=>∃s' σ',c7 U w0 σ0 K X.N s' a' w' σ' ∧(match e with| .exit id' =>id' =id∧kn s' =some r| .ret=>∃x,X.res s' =some x∧kr x=some r|_=>False)) a w:=by
   rintro⟨k,a⟩ hp aa ww σσ hrel;cases k with
   |zero=>cases hp
   |succ k=>
    simp only[ry]at hp;obtain⟨xv,hstep,hlr⟩:=qw4 hp
    classical
    let K1:C→S→Option (LR S E Rf):=fun c' a' =>if c' =c then some (.next a')else none
    let D1:CE→E→Option (LR S E Rf):=fun c' e=>if c' =pE c then some (.done e)else none
    have hden:=hpar (LR S E Rf) K1 D1 (fun r=>some (.ret r)) c a;have e1:K1 c=fun a' =>some (.next a'):=by funext a';simp[K1]
    have e2:D1 (pE c)=fun e=>some (.done e):=by funext e;simp[D1]
    rw[e1,e2]at hden;rw[hstep]at hden;refine Code.wp_mono ?_ (q7v hX hmix hK body ann _ _ _ _ hs hden aa ww σσ hrel);rintro e a' w' ⟨s',σ',h1,hpost⟩;cases e with
    |normal=>
     have hk:(match shI.dec X.N X.kp s' with|some x=>K1 (un x).1 (un x).2|none=>none)=some xv:=hpost;cases hx' :shI.dec X.N X.kp s' with
     |none=>rw[hx']at hk;cases hk
     |some x' =>
      rw[hx']at hk;simp only[K1]at hk;split at hk
      ·rename_i hc;cases hk;obtain⟨σ2,hr2⟩:=Shp.dec_ok hK hx' h1;refine⟨(k,(un x').2),σ2,hlr,Nat.lt_succ_self k,?_⟩;have e:=hmk x';rw[hc]at e;rw[e];exact hr2
      ·cases hk
    |exit id' =>
     have hk1:(bif Nat.beq id' id then(match shE.dec X.N X.kp s' with|some y=>D1 (unE y).1 (unE y).2|none=>none)else none)=some xv:=hpost;have hid:=(ai hk1).1;have hk:=(ai hk1).2;have hid' :=aw hid;cases hx' :shE.dec X.N X.kp s' with
     |none=>rw[hx']at hk;cases hk
     |some y=>
      rw[hx']at hk;simp only[D1]at hk;split at hk
      ·rename_i hc;cases hk;cases hlr;obtain⟨σ2,hr2⟩:=Shp.dec_ok hK hx' h1;refine⟨shE.enc (mkE (pE c) (unE y).2),σ2,?_,hid',hcont⟩;have e:=hmkE y;rw[hc]at e;rw[e];exact hr2
      ·cases hk
    |ret=>
     obtain⟨x',hres,hk⟩:=hpost;cases hk;cases hlr;exact⟨s',σ',h1,x',hres,hcont⟩
    |_=>exact hpost.elim
  have hloop:=CW.loop (P:=P) (Q:=fun e s' =>match e with| .exit id' =>id' =id∧kn s' =some r| .ret=>∃x,X.res s' =some x∧kr x=some r|_=>False) (fun p:Nat×S=>shI.enc (mk c p.2)) (fun p=>qvx (fun a=>stepK c a (fun a' =>some (.next a')) (fun e=>some (.done e)) (fun r=>some (.ret r))) p.1 p.2=some o) (fun p=>p.1) hround (many,a0) hm;refine wp_block (Code.wp_mono ?_ (hloop av w σ1 hr1));rintro e a' w' ⟨s',σ',h1,h2⟩;cases e with
  |normal=>exact h2.elim
  |exit id' =>
   obtain⟨rfl,hk⟩:=h2;simp only[Exit.inBlock,if_true];exact⟨s',σ',h1,hk⟩
  |ret=>exact⟨s',σ',h1,h2⟩
  |_=>exact h2.elim
def qd8(Rf:Type)(N:Nat)(kp:List Bool)(shI:Shp){A:Type}(un:shI.den→A)(shE:Shp){CE E:Type}(mkE:CE→E→shE.den)(pE:A→CE)
  (stepK:{R:Type}→A→(E→Option R)→(Rf→Option R)→Option R):Summ Rf where
 A:=A
 O:=E⊕Rf
 dec:=fun s=>match shI.dec N kp s with|some x=>some (un x)|none=>none
 m:=fun x=>stepK x (fun e=>some (.inl e)) (fun r=>some (.inr r))
 cont:=fun x o kn _ kr=>lk o (fun e=>kn (shE.enc (mkE (pE x) e))) kr
theorem jwe{X:Ctx Rf}(hX:CtxOK P X)(hmix:P.follows .mixedOrders=true){n:Nat}{c:Code}{ann:Ann}(hs:∀p∈po c ann,ao P X p.1 p.2)
  {shI shE:Shp} {A CE E:Type} {un:shI.den→A} {mk:A→shI.den} {unE:shE.den→CE×E} {mkE:CE→E→shE.den} {pE:A→CE}
  {stepK:{R:Type}→A→(E→Option R)→(Rf→Option R)→Option R}
  (hΛ:X.Λ n=some (qd8 Rf X.N X.kp shI un shE mkE pE stepK)) (hmk:∀x,mk (un x)=x) (hmkE:∀y,mkE (unE y).1 (unE y).2=y)
  (hpar:∀(R:Type) (D:CE→E→Option R) (T:Rf→Option R) (a:A),
   den X c ann (shI.enc (mk a)) (fun s' =>match shE.dec X.N X.kp s' with|some y=>D (unE y).1 (unE y).2|none=>none) (fun _ _=>none) T=stepK a (D (pE a)) T):
  ao P X n c:=by
 intro σ hσ;rw[hΛ]at hσ;cases hσ;intro U w0 σ0 K hK R s (a:A) o kn ke kr r hdec hm hcont;simp only[qd8]at hdec hm hcont;cases hx:shI.dec X.N X.kp s with
 |none=>rw[hx]at hdec;cases hdec
 |some x=>
  rw[hx]at hdec;simp only[Option.some.injEq]at hdec;intro av w σ hr;obtain⟨σ1,hr1⟩:=Shp.dec_ok hK hx hr;have hxe:x=mk a:=by
   have e:=hmk x;rw[hdec]at e;exact e.symm
  rw[hxe]at hr1
  classical
  let D:CE→E→Option (E⊕Rf):=fun c' e=>if c' =pE a then some (.inl e)else none
  have hden:=hpar (E⊕Rf) D (fun r=>some (.inr r)) a;have e2:D (pE a)=fun e=>some (.inl e):=by funext e;simp[D]
  rw[e2,hm]at hden;refine Code.wp_mono ?_ (q7v hX hmix hK c ann _ _ _ _ hs hden av w σ1 hr1);rintro e a' w' ⟨s',σ',h1,hpost⟩;cases e with
  |normal=>
   have hk:(match shE.dec X.N X.kp s' with|some y=>D (unE y).1 (unE y).2|none=>none)=some o:=hpost;cases hx' :shE.dec X.N X.kp s' with
   |none=>rw[hx']at hk;cases hk
   |some y=>
    rw[hx']at hk;simp only[D]at hk;split at hk
    ·rename_i hc;cases hk;obtain⟨σ2,hr2⟩:=Shp.dec_ok hK hx' h1;refine⟨shE.enc (mkE (pE a) (unE y).2),σ2,?_,hcont⟩;have e:=hmkE y;rw[hc]at e;rw[e];exact hr2
    ·cases hk
  |exit id' =>cases hpost
  |ret=>
   obtain⟨x',hres,hk⟩:=hpost;cases hk;exact⟨s',σ',h1,x',hres,hcont⟩
  |_=>exact hpost.elim
end
end Go.K
namespace Go.K
open Go.M Go.RowKit
def jug(N:Nat)(tt:TT)(s:TS):ResultVar→Option TV
 | .tmp t=>some (rd N s.S t)
 | .cell a t=>match jdg tt s.H t (rd N s.S a)with|some ([],v)=>some v|_=>none
def q4k(N:Nat)(tt:TT)(s:TS):List ResultVar→Option (List TV)
 |[]=>some []
 |r::rs=>
  match jug N tt s r with
  |some v=>match q4k N tt s rs with|some l=>some (v::l)|none=>none
  |none=>none
def qks:Nat→List TV→List (Nat×TV)
 |_,[]=>[]
 |k,v::l=>(k,v)::qks (k+1) l
def jjk(N:Nat)(tt:TT)(kp:List Bool)(rs:List ResultVar)(sh:Shp)(s:TS):Option sh.den:=
 match q4k N tt s rs with
 |some vs=>sh.dec vs.length kp ⟨qks 0 vs,s.H⟩
 |none=>none
def cm(N:Nat)(tt:TT)(kp:List Bool)(rs:List ResultVar)(sh:Shp){B:Type}(un:sh.den→B)(s:TS):Option B:=
 match jjk N tt kp rs sh s with
 |some b=>some (un b)
 |none=>none
def jds(N:Nat)(tt:TT)(kp:List Bool)(rs:List ResultVar)(sh1 sh2:Shp){B1 B2:Type}(un1:sh1.den→B1)(un2:sh2.den→B2)(s:TS):Option (B1⊕B2):=
 match jjk N tt kp rs sh1 s with
 |some b=>some (.inl (un1 b))
 |none=>match jjk N tt kp rs sh2 s with|some b=>some (.inr (un2 b))|none=>none
def jpy(S:List (Nat×TV)):Nat→Nat→List TV
 |_,0=>[]
 |j,k+1=>bq S j::jpy S (j+1) k
def jgr(k:Nat)(S:List (Nat×TV)):TV:=
 match jpy S 0 k with
 |[v]=>v
 |l=> .tup l
def jvn(l:ShL)(objs:List Hs)(args:List TV)(H:List TOb):Rho:=jnf H 0 objs (l.fnd args (List.replicate objs.length none))
def jxs:Rho→Option (List Nat)
 |[]=>some []
 |some t::l=>match jxs l with|some r=>some (t::r)|none=>none
 |none::_=>none
def jix(l:ShL)(objs:List Hs)(kp:List Bool){B:Type}(res:B→TV)(outs:B→List TOb)(cs:{R:Type}→B→(B→Option R)→Option R)(csn:∀{R R' :Type} (b:B) (k:B→Option R) (f:R→Option R'),cs b (fun b=>(k b).bind f)=(cs b k).bind f)(m:l.den×kd objs→Option B):Mdl where
 A:=l.den×kd objs
 B:=B
 dec:=fun args H=>
  match jxs (jvn l objs args H)with
  |some ρ=>
   bif qsm (ρ.map some)then
    match l.dec true (ρ.map some) H args with
    |some x=>match qo1 true (ρ.map some) H (ρ.map some) objs with|some y=>some ((x,y),ρ,[])|none=>none
    |none=>none
   else none
  |none=>none
 args:=fun a=>l.enc a.1
 objs:=fun a=>da objs a.2
 m:=m
 res:=fun _ b=>res b
 outs:=fun _ b=>outs b
 kp:=kp
 cs:=cs
 csn:=csn
def ay(l:ShL)(objs:List Hs)(kp:List Bool)(k:Nat)(sh:Shp){B:Type}(mk:B→sh.den)(m:l.den×kd objs→Option B):Mdl:=
 jix l objs kp (fun b=>jgr k (qfn sh.sl (mk b).1)) (fun b=>da sh.hp (mk b).2) (fun b k=>k b) (fun _ _ _=>rfl) m
def jak{B1 B2 R:Type}(b:B1⊕B2)(f:B1→R)(g:B2→R):R:=match b with| .inl x=>f x| .inr y=>g y
def q8z(l:ShL)(objs:List Hs)(kp:List Bool)(k:Nat)(sh1 sh2:Shp){B1 B2:Type}(mk1:B1→sh1.den)(mk2:B2→sh2.den)(m:l.den×kd objs→Option (B1⊕B2)):Mdl:=
 jix l objs kp (fun b=>jak b (fun x=>jgr k (qfn sh1.sl (mk1 x).1)) fun y=>jgr k (qfn sh2.sl (mk2 y).1)) (fun b=>jak b (fun x=>da sh1.hp (mk1 x).2) fun y=>da sh2.hp (mk2 y).2)
  (fun b k=>jak b (fun x=>k (.inl x)) fun y=>k (.inr y)) (fun b _ _=>by cases b<;>rfl) m
mutual
def Sh.frB:Sh→Bool
 | .d fr t=>fr||t.flat
 | .rp fr _=>fr
 | .own _=>true
 | .kid _ _=>true
 | .ptr _=>true
 | .mp _=>true
 | .dm fr _ _=>fr
 | .it=>true
 | .e=>true
 | .fn _ l=>l.frB
 | .agg l=>l.frB
 | .nl _ s=>s.frB
 | .nf s=>s.frB
def ShL.frB:ShL→Bool
 | .nil=>true
 | .cons s l=>s.frB&&l.frB
end
def Hs.frB:Hs→Bool
 | .arr _ (.fz fr) _ t=>fr||t.flat
 | .arr _ _ _ _=>true
 | .cs _ _ _ l=>l.frB
 | .mp _ _=>true
 | .mo _ _ _=>true
def jod:List (Nat×Sh)→Bool
 |[]=>true
 |p::l=>p.2.frB&&jod l
def jng:List Hs→Bool
 |[]=>true
 |p::l=>p.frB&&jng l
def Shp.frB(h:Shp):Bool:=jod h.sl&&jng h.hp
theorem qtf:∀{l:List TV},(∀A∈l,A.fresh=true)→TV.freshL l=true
 |[],_=>rfl
 |A::l,h=>by simp only[TV.freshL,h A List.mem_cons_self,qtf fun B hB=>h B (List.mem_cons_of_mem _ hB),Bool.and_self]
theorem jmh{fr:Bool}:∀{t:Ty} (x:t.den),(fr||t.flat)=true→(jau fr t x).fresh=true
 | .int _,_,_=>rfl
 | .bool,_,_=>rfl
 | .str,_,_=>rfl
 | .slice t,xs,h=>by simpa[jau,TV.fresh,Ty.flat]using h
 | .struct l,x,h=>by
  simp only[jau,TV.fresh];refine qtf fun A hA=> ?_
  cases fr with
  |true=>exact qvu (TyL.cells_form true l x A hA)
  |false=>exact TyL.flat_cells false l x (by simpa[Ty.flat]using h) A hA
 | .tree l m,x,h=>by
  simp only[jau,TV.fresh];refine qtf fun A hA=> ?_
  cases fr with
  |true=>exact qvu (Ty.cells_form true (.tree l m) x A hA)
  |false=>simp[Ty.flat]at h
mutual
theorem Sh.enc_fresh:∀(s:Sh) (x:s.den),s.frB=true→(s.enc x).fresh=true
 | .d fr t,x,h=>jmh x h
 | .rp fr t,x,h=>h
 | .own _,_,_=>rfl
 | .kid _ _,_,_=>rfl
 | .ptr _,_,_=>rfl
 | .mp _,_,_=>rfl
 | .dm _ _ _,_,h=>h
 | .it,_,_=>rfl
 | .e,_,_=>rfl
 | .fn f l,x,h=>ShL.enc_fresh l x h
 | .agg l,x,h=>ShL.enc_fresh l x h
 | .nl _ s,x,h=>Sh.enc_fresh s x h
 | .nf s,x,h=>Sh.enc_fresh s x.2 h
theorem ShL.enc_fresh:∀(l:ShL) (x:l.den),l.frB=true→TV.freshL (l.enc x)=true
 | .nil,_,_=>rfl
 | .cons s l,x,h=>by
  simp only[ShL.frB,Bool.and_eq_true]at h;simp only[ShL.enc,TV.freshL,Sh.enc_fresh s x.1 h.1,ShL.enc_fresh l x.2 h.2,Bool.and_self]
end
theorem Hs.enc_fresh:∀(h:Hs) (x:h.den),h.frB=true→(h.enc x).fresh=true
 | .arr _ (.fz _) _ _,_,h=>h
 | .arr _ .own _ _,_,_=>rfl
 | .arr _ (.hole _ _) _ _,_,_=>rfl
 | .arr _ (.swap _ _) _ _,_,_=>rfl
 | .cs _ _ _ l,x,h=>ShL.enc_fresh l x h
 | .mp _ _,_,_=>rfl
 | .mo _ _ _,_,_=>rfl
theorem qrp:∀(l:List Hs) (x:kd l),jng l=true→qg0 (da l x)=true
 |[],_,_=>rfl
 |p::l,x,h=>by
  simp only[jng,Bool.and_eq_true]at h;simp only[da,qg0,Hs.enc_fresh p x.1 h.1,qrp l x.2 h.2,Bool.and_self]
theorem qsq:∀(l:List (Nat×Sh)) (x:q93 l),jod l=true→∀t,(bq (qfn l x) t).fresh=true
 |[],_,_,t=>rfl
 |p::l,x,h,t=>by
  simp only[jod,Bool.and_eq_true]at h;simp only[qfn,oz];split
  ·exact Sh.enc_fresh p.2 x.1 h.1
  ·exact qsq l x.2 h.2 t
theorem q9y{S:List (Nat×TV)}(h:∀t,(bq S t).fresh=true)(k:Nat):(jgr k S).fresh=true:=by
 have:∀k j,∀A∈jpy S j k,A.fresh=true:=by
  intro k
  induction k with
  |zero=>intro j A hA;simp[jpy]at hA
  |succ k ih=>
   intro j A hA;rcases List.mem_cons.1 hA with rfl|hA
   ·exact h j
   ·exact ih _ A hA
 have h1:=this k 0;unfold jgr;split
 ·rename_i v e;exact h1 v (by rw[e];exact List.mem_cons_self)
 ·exact qtf h1
end Go.K
namespace Go.K
open Go.M Go.RowKit
section
variable {U : Nat → Prop} {w0 : World} {σ0 : Pl} {K : Nat → Bool} {N : Nat} {P : Program} {tt : TT}
def jw2(tmps:Array Value):ResultVar→Sem Value
 | .tmp t=>pure (tmps.getD t undef)
 | .cell ad t=>do loadVar t (←asAddr (tmps.getD ad undef))
theorem jo8{H:List TOb}{t:TypeId}{A:TV}{r:List Bool×TV}(h:jdg tt H t A=some r){G:Gr}{v:Value}(hv:VR G A v):∃ad,v= .pointer (some ad):=by
 unfold jdg at h;split at h
 ·cases h
 ·split at h
  ·obtain⟨g,o,n,sz,_,_,rfl⟩:=hv;exact⟨_,rfl⟩
  ·obtain⟨g,o,n,sz,_,_,rfl⟩:=hv;exact⟨_,rfl⟩
  ·obtain⟨b,o,rfl,_⟩:=hv;exact⟨_,rfl⟩
  ·cases h
theorem jjl(hF:c9 P tt){s:TS}{a:Act}{w:World}{σ:Pl}(h:c7 U w0 σ0 K N s a w σ):∀(rs:List ResultVar) (l:List TV),q4k N tt s rs=some l→
  ∃vs:List Value,(rs.mapM (jw2 a.tmps)).run P w= .ok vs w∧fj (gr U (vw s.H) w σ) l vs
 |[],l,hl=>by
  simp only[q4k,Option.some.injEq]at hl;subst hl;exact⟨[],by simp,rfl⟩
 |r::rs,l,hl=>by
  unfold q4k at hl;split at hl
  ·rename_i v hv;split at hl
   ·rename_i m hm;cases hl;obtain⟨vs,hrun,hvs⟩:=jjl hF h rs m hm;cases r with
    |tmp t=>
     simp only[jug,Option.some.injEq]at hv;subst hv;refine⟨a.tmps.getD t undef::vs,by simp only[List.mapM_cons,jw2,Sem.run_bind,Sem.run_pure,Result.andThen_ok,hrun],_,vs,rfl,h.ev (.tmp t),hvs⟩
    |cell ad t=>
     simp only[jug]at hv;split at hv
     ·rename_i v0 hload;cases hv;have hev:VR (gr U (vw s.H) w σ) (rd N s.S ad) (a.tmps.getD ad undef):=h.ev (.tmp ad);obtain⟨adr,hadr⟩:=jo8 hload hev;obtain⟨u,hu,hV⟩:=q36 (P:=P) hF h.hr.sees hev hload gm.nil;rw[hadr]at hu;simp only[Instr.loadAt,Instr.sureAddr,pure_bind]at hu;have hu' :(loadVar t adr).run P w= .ok u w:=hu;refine⟨u::vs,?_,u,vs,rfl,hV,hvs⟩;simp only[List.mapM_cons,jw2,hadr,asAddr,pure_bind,Sem.run_bind,hu',Result.andThen_ok,hrun,Sem.run_pure]
     ·cases hv
   ·cases hl
  ·cases hl
theorem q1n:∀(l:List TV) (k t:Nat),bq (qks k l) t=if k≤t then l.getD (t-k) .any else .any
 |[],k,t=>by simp[qks,bq]
 |v::l,k,t=>by
  simp only[qks,oz,q1n l (k+1) t];by_cases h:k=t
  ·subst h;simp
  ·rw[if_neg h];by_cases h1:k≤t
   ·rw[if_pos (by omega),if_pos h1,show t-k=(t-(k+1))+1 by omega];simp
   ·rw[if_neg (by omega),if_neg h1]
theorem jim{G:Gr}{S:List (Nat×TV)}:∀(vs:List Value) (j:Nat),(∀i v,vs[i]? =some v→VR G (bq S (j+i)) v)→fj G (jpy S j vs.length) vs
 |[],j,_=>rfl
 |v::vs,j,h=>⟨v,vs,rfl,by simpa using h 0 v rfl,jim vs (j+1) fun i u hi=>by rw[show j+1+i=j+(i+1) by omega];exact h (i+1) u (by simpa using hi)⟩
theorem jw3{G:Gr}{S:List (Nat×TV)}{vs:List Value}(h:fj G (jpy S 0 vs.length) vs):VR G (jgr vs.length S) (if h:vs.toArray.size=1 then vs.toArray[0]else .tuple vs.toArray):=by
 unfold jgr
 match vs,h with
 |[],h=>exact⟨[],by simp,h⟩
 |[v],h=>
  obtain⟨u,r,e,h1,h2⟩:=h;simp only[List.cons.injEq]at e;obtain⟨rfl,_⟩:=e;rw[dif_pos (by simp)];exact h1
 |v::v2::vs,h=>
  rw[dif_neg (by simp)];exact⟨_,rfl,h⟩
theorem q9x(hF:c9 P tt){fn:Func}{rs:List ResultVar}(hrs:fn.results=rs.toArray){kp:List Bool}(hK:∀t,br kp t=false→K t=false){sh:Shp}{s:TS}{b:sh.den}(hb:jjk N tt kp rs sh s=some b){a:Act}{w:World}{σ:Pl}(h:c7 U w0 σ0 K N s a w σ):
  ∃v σ',(results fn a.tmps).run P w= .ok v w∧HR U w0 σ0 K (vw (da sh.hp b.2)) w σ' ∧VR (gr U (vw (da sh.hp b.2)) w σ') (jgr rs.length (qfn sh.sl b.1)) v:=by
 unfold jjk at hb;split at hb
 ·rename_i l hl;obtain⟨vs,hrun,hvs⟩:=jjl (P:=P) hF h rs l hl;have hres:(results fn a.tmps).run P w= .ok (if h:vs.toArray.size=1 then vs.toArray[0]else .tuple vs.toArray) w:=by
   have e1:results fn a.tmps=(do let vs←fn.results.mapM (jw2 a.tmps);pure (if h:vs.size=1 then vs[0]else .tuple vs)):=by
    unfold results;congr 1
   rw[e1,hrs];simp only[List.mapM_toArray,Sem.run_bind,Sem.run_map,hrun,Result.andThen_ok,Sem.run_pure]
  have hlen:∀(rs:List ResultVar) (l:List TV),q4k N tt s rs=some l→l.length=rs.length:=by
   intro rs
   induction rs with
   |nil=>intro l hl;simp only[q4k,Option.some.injEq]at hl;subst hl;rfl
   |cons r rs ih=>
    intro l hl;unfold q4k at hl;split at hl
    ·split at hl
     ·rename_i m hm;cases hl;simp[ih m hm]
     ·cases hl
    ·cases hl
  have hl1:=hlen rs l hl;have hl2:=hvs.len;have hr1:c7 U w0 σ0 K l.length ⟨qks 0 l,s.H⟩ ⟨vs.toArray,[]⟩ w σ:=by
   refine⟨rfl,by simp[hl2],fun t ht=> ?_,h.hr⟩;obtain⟨u,hu,hV⟩:=hvs.getD t ht;refine⟨u,by simpa using hu,?_⟩;simp only[q1n,Nat.zero_le,if_true,Nat.sub_zero];exact hV
  obtain⟨σ',hr2⟩:=Shp.dec_ok hK hb hr1;refine⟨_,σ',hres,hr2.hr,?_⟩;rw[show rs.length=vs.length by omega];refine jw3 (jim vs 0 fun i v hi=> ?_);rw[Nat.zero_add];obtain⟨v',hv',hV⟩:=hr2.slot i (by have:=(List.getElem?_eq_some_iff.1 hi).1;omega);have:v' =v:=by
   have:vs[i]? =some v' :=by simpa using hv'
   rw[hi]at this;exact(Option.some.inj this).symm
  subst this;exact hV
 ·cases hb
theorem jiy{l:ShL}{objs:List Hs}{kp:List Bool}{B:Type}{res:B→TV}{outs:B→List TOb}{cs:{R:Type}→B→(B→Option R)→Option R}{csn:∀{R R' :Type} (b:B) (k:B→Option R) (f:R→Option R'),cs b (fun b=>(k b).bind f)=(cs b k).bind f}{m:l.den×kd objs→Option B}:∀args Hv H a ρ bs,HLe (fun _=>False) Hv H→(jix l objs kp res outs cs csn m).dec args Hv=some (a,ρ,bs)→q3w ρ=true→q3n Hv.length ρ=true→q1q ρ bs=true→∀(U:Nat→Prop) (w0:World) (σ0:Pl) (K:Nat→Bool) (w:World) (σ:Pl),HR U w0 σ0 K (vw H) w σ→
  HR (qd9 ρ U σ) w (qls ρ σ) (br kp) (vw ((jix l objs kp res outs cs csn m).objs a)) w (qls ρ σ)∧∀vs:List Value,fj (gr U (vw H) w σ) args vs→fj (gr (qd9 ρ U σ) (vw ((jix l objs kp res outs cs csn m).objs a)) w (qls ρ σ)) ((jix l objs kp res outs cs csn m).args a) vs:=by
 intro args Hv H a ρ bs hle hdec _ _ _ U w0 σ0 K w σ hHR;simp only[jix]at hdec;split at hdec
 ·rename_i ρ' hρ;obtain⟨hok,hdec⟩:=ai hdec;split at hdec
  ·rename_i x hx;split at hdec
   ·rename_i y hy;cases hdec;obtain⟨hcv,hHR'⟩:=j35 (br kp) hHR hle hok hy;refine⟨hHR',fun vs hvs=> ?_⟩;have:=ShL.dec_ok hcv l args x hx vs hvs;rw[qtk]at this;exact this
   ·cases hdec
  ·cases hdec
 ·cases hdec
theorem qy6{l:ShL}{objs:List Hs}{kp:List Bool}{k:Nat}{sh:Shp}{B:Type}{mk:B→sh.den}{m:l.den×kd objs→Option B}:∀args Hv H a ρ bs,HLe (fun _=>False) Hv H→(ay l objs kp k sh mk m).dec args Hv=some (a,ρ,bs)→q3w ρ=true→q3n Hv.length ρ=true→q1q ρ bs=true→∀(U:Nat→Prop) (w0:World) (σ0:Pl) (K:Nat→Bool) (w:World) (σ:Pl),HR U w0 σ0 K (vw H) w σ→
 HR (qd9 ρ U σ) w (qls ρ σ) (br kp) (vw ((ay l objs kp k sh mk m).objs a)) w (qls ρ σ)∧∀vs:List Value,fj (gr U (vw H) w σ) args vs→fj (gr (qd9 ρ U σ) (vw ((ay l objs kp k sh mk m).objs a)) w (qls ρ σ)) ((ay l objs kp k sh mk m).args a) vs:=jiy (csn:=fun _ _ _=>rfl)
theorem qtg{l:ShL}{objs:List Hs}{kp:List Bool}{k:Nat}{sh:Shp}{B:Type}{mk:B→sh.den}{m:l.den×kd objs→Option B}(hfr:sh.frB=true)(a:l.den×kd objs)(b:B):TV.fresh ((ay l objs kp k sh mk m).res a b)=true∧qg0 ((ay l objs kp k sh mk m).outs a b)=true:=by
 have hfr' :=hfr;simp only[Shp.frB,Bool.and_eq_true]at hfr';exact⟨q9y (qsq sh.sl (mk b).1 hfr'.1) _,qrp sh.hp (mk b).2 hfr'.2⟩
theorem q92{sh:Shp}(hfr:sh.frB=true)(k:Nat)(x:sh.den):TV.fresh (jgr k (qfn sh.sl x.1))=true∧qg0 (da sh.hp x.2)=true:=by
 simp only[Shp.frB,Bool.and_eq_true]at hfr;exact⟨q9y (qsq sh.sl x.1 hfr.1) _,qrp sh.hp x.2 hfr.2⟩
theorem jsu{f:FuncId}{fn:Func}{c:Code}(hf:P.funcs[f]? =some fn)(hname:(fn.name== "runtime.NumGoroutine")=false)(hb:fn.body=some c){B:Type}{X:Ctx B}(hN:fn.ntmps=X.N)
  {l:ShL} {objs:List Hs} {res:B→TV} {outs:B→List TOb} {cs:{R:Type}→B→(B→Option R)→Option R} {csn:∀{R R' :Type} (b:B) (k:B→Option R) (f:R→Option R'),cs b (fun b=>(k b).bind f)=(cs b k).bind f} (hcs:∀(R:Type) (b:B) (k:B→Option R) (r:R),cs b k=some r→k b=some r) (hX:CtxOK P X) (hmix:P.follows .mixedOrders=true) {ann:Ann} (hs:∀p∈po c ann,ao P X p.1 p.2) (hl:l.len≤X.N)
  (hfr:∀b,TV.fresh (res b)=true∧qg0 (outs b)=true)
  (done:∀(U:Nat→Prop) (w:World) (σ:Pl) s' a' w' σ' b,c7 U w σ (br X.kp) X.N s' a' w' σ' →X.res s' =some b→a'.defers=[]∧∃v,(results fn a'.tmps).run P w' = .ok v w' ∧∃v2 σ',Ending.returned v= .returned v2∧HR U w σ (br X.kp) (vw (outs b)) w' σ' ∧VR (gr U (vw (outs b)) w' σ') (res b) v2)
  {m:l.den×kd objs→Option B} (hden:∀a,den X c ann ⟨qks 0 (l.enc a.1),da objs a.2⟩ X.res (fun _ _=>none) some=m a):MdlOK P f (jix l objs X.kp res outs cs csn m):=by
 refine⟨⟨fn,hf,hname,by rw[hb];rfl⟩,fun a b hm U w σ hHR vs hvs=> ?_,jiy (csn:=csn),fun a b _=>hfr b,hcs⟩;have hm' :m a=some b:=hm;have hvl:vs.length=l.len:=by rw[hvs.len];exact ShL.enc_len l a.1
 have hr0:c7 U w σ (br X.kp) X.N ⟨qks 0 (l.enc a.1),da objs a.2⟩ {tmps:=vs.toArray++Array.replicate (fn.ntmps-vs.toArray.size) undef,defers:=[]} w σ:=by
  refine⟨rfl,by simp[hN];omega,fun t ht=> ?_,hHR⟩;simp only[q1n,Nat.zero_le,if_true,Nat.sub_zero];rcases Nat.lt_or_ge t vs.length with h1|h1
  ·obtain⟨u,hu,hV⟩:=fj.getD hvs t (by show t<(l.enc a.1).length;rw[ShL.enc_len];omega);exact⟨u,by rw[Array.getElem?_append_left (by simpa using h1)];simpa using hu,hV⟩
  ·refine⟨undef,?_,?_⟩
   ·rw[Array.getElem?_append_right (by simpa using h1)];simp[hN];rw[Array.getElem?_replicate,if_pos (by omega)]
   ·rw[List.getD_eq_getElem?_getD,List.getElem?_eq_none (by rw[ShL.enc_len];omega)]
    trivial
 have hd:=hden a;rw[hm']at hd;refine calls_of_wp hf hb (Code.wp_mono ?_ (q7v (K:=br X.kp) hX hmix (fun t h=>h) c ann _ _ _ _ hs hd _ w σ hr0));rintro e a' w' ⟨s',σ',h1,hpost⟩;cases e with
 |normal=>exact done U w σ s' a' w' σ' b h1 hpost
 |ret=>
  obtain⟨x,hx,hk⟩:=hpost;cases hk;exact done U w σ s' a' w' σ' b h1 hx
 |exit id=>cases hpost
 |_=>exact hpost.elim
theorem j5e{f:FuncId}{fn:Func}{c:Code}(hf:P.funcs[f]? =some fn)(hname:(fn.name== "runtime.NumGoroutine")=false)(hb:fn.body=some c){B:Type}{X:Ctx B}(hN:fn.ntmps=X.N){rs:List ResultVar}
  (hrs:fn.results=rs.toArray) {l:ShL} {objs:List Hs} {sh:Shp} {un:sh.den→B} {mk:B→sh.den} (hmk:∀x,mk (un x)=x) (hres:X.res=cm X.N X.tt X.kp rs sh un) (hX:CtxOK P X) (hmix:P.follows .mixedOrders=true) {ann:Ann} (hs:∀p∈po c ann,ao P X p.1 p.2) (hl:l.len≤X.N) (hfr:sh.frB=true)
  {m:l.den×kd objs→Option B} (hden:∀a,den X c ann ⟨qks 0 (l.enc a.1),da objs a.2⟩ X.res (fun _ _=>none) some=m a):MdlOK P f (ay l objs X.kp rs.length sh mk m):=by
 refine jsu (csn:=fun _ _ _=>rfl) hf hname hb hN (fun _ _ _ _ h=>h) hX hmix hs hl (fun b=>q92 hfr _ _) (fun U w σ s' a' w' σ' b h1 h2=> ?_) hden;rw[hres]at h2;unfold cm at h2;split at h2
 ·rename_i b0 hb0;cases h2;rw[hmk];obtain⟨v,σ2,e1,e2,e3⟩:=q9x hX.fits hrs (fun t h=>h) hb0 h1;exact⟨h1.defers,v,e1,v,σ2,rfl,e2,e3⟩
 ·cases h2
theorem j2i{f:FuncId}{fn:Func}{c:Code}(hf:P.funcs[f]? =some fn)(hname:(fn.name== "runtime.NumGoroutine")=false)(hb:fn.body=some c){B1 B2:Type}{X:Ctx (B1⊕B2)}(hN:fn.ntmps=X.N){rs:List ResultVar}
  (hrs:fn.results=rs.toArray) {l:ShL} {objs:List Hs} {sh1 sh2:Shp} {un1:sh1.den→B1} {un2:sh2.den→B2} {mk1:B1→sh1.den} {mk2:B2→sh2.den} (hmk1:∀x,mk1 (un1 x)=x) (hmk2:∀x,mk2 (un2 x)=x) (hres:X.res=jds X.N X.tt X.kp rs sh1 sh2 un1 un2) (hX:CtxOK P X) (hmix:P.follows .mixedOrders=true) {ann:Ann} (hs:∀p∈po c ann,ao P X p.1 p.2) (hl:l.len≤X.N) (hfr1:sh1.frB=true) (hfr2:sh2.frB=true)
  {m:l.den×kd objs→Option (B1⊕B2)} (hden:∀a,den X c ann ⟨qks 0 (l.enc a.1),da objs a.2⟩ X.res (fun _ _=>none) some=m a):MdlOK P f (q8z l objs X.kp rs.length sh1 sh2 mk1 mk2 m):=by
 refine jsu (csn:=fun b _ _=>by cases b<;>rfl) hf hname hb hN (fun _ b _ _ h=>by cases b<;>exact h) hX hmix hs hl (fun b=>by cases b<;>first|exact q92 hfr1 _ _|exact q92 hfr2 _ _) (fun U w σ s' a' w' σ' b h1 h2=> ?_) hden;rw[hres]at h2;unfold jds at h2;split at h2
 ·rename_i b0 hb0;cases h2;obtain⟨v,σ2,e1,e2,e3⟩:=q9x hX.fits hrs (fun t h=>h) hb0 h1;refine⟨h1.defers,v,e1,v,σ2,rfl,?_,?_⟩<;>simp only[jak,hmk1]<;>assumption
 ·split at h2
  ·rename_i b0 hb0;cases h2;obtain⟨v,σ2,e1,e2,e3⟩:=q9x hX.fits hrs (fun t h=>h) hb0 h1;refine⟨h1.defers,v,e1,v,σ2,rfl,?_,?_⟩<;>simp only[jak,hmk2]<;>assumption
  ·cases h2
def j29{A B:Type}(F:(A→Option B)→A→Option B)(n:Nat):A→Option B:=
 Nat.rec (motive:=fun _=>A→Option B) (fun _=>none) (fun _ ih a=>F ih a) n
theorem j3a{f:FuncId}{fn:Func}{c:Code}{l:ShL}{objs:List Hs}{kp:List Bool}{k:Nat}{sh:Shp}{B:Type}{mk:B→sh.den}{F:(l.den×kd objs→Option B)→l.den×kd objs→Option B}(hf:P.funcs[f]? =some fn)(hname:(fn.name== "runtime.NumGoroutine")=false)(hb:fn.body=some c)(hfr:sh.frB=true)
  (hstep:∀rec,MdlOK P f (ay l objs kp k sh mk rec)→MdlOK P f (ay l objs kp k sh mk (F rec))):MdlOK P f (ay l objs kp k sh mk (fun a=>j29 F many a)):=by
 have key:∀n,MdlOK P f (ay l objs kp k sh mk (j29 F n)):=by
  intro n
  induction n with
  |zero=>exact⟨⟨fn,hf,hname,by rw[hb];rfl⟩,(fun a b hm=>by cases hm),qy6,fun a b _=>qtg hfr a b,fun _ _ _ _ h=>h⟩
  |succ n ih=>exact hstep _ ih
 exact key many
theorem jqb{f:FuncId}{s:Sh}{l:ShL}{objs:List Hs}{kp:List Bool}{k:Nat}{sh:Shp}{B:Type}{mk:B→sh.den}{m m0 m1:(ShL.cons s l).den×kd objs→Option B}(hs:∀(G:Gr) (x:s.den) (v:Value),VR G (s.enc x) v→∃a n c,v= .slice a n c)
  (h0:MdlOK P f (ay (.cons (.nl false s) l) objs kp k sh mk m0)) (h1:MdlOK P f (ay (.cons (.nl true s) l) objs kp k sh mk m1)) (hfr:sh.frB=true) (hm:∀a b,m a=some b→m0 a=some b∧m1 a=some b):MdlOK P f (ay (.cons s l) objs kp k sh mk m):=by
 refine⟨h0.fn,fun a b hb U w σ hHR vs hvs=> ?_,qy6,fun a b _=>qtg hfr a b,fun _ _ _ _ h=>h⟩;obtain⟨hb0,hb1⟩:=hm a b hb;obtain⟨u,r,rfl,h2,h3⟩:=(show fj _ (s.enc a.1.1::l.enc a.1.2) vs from hvs);obtain⟨ad,n,c,rfl⟩:=hs _ _ _ h2;cases ad with
 |none=>exact h0.run a b hb0 U w σ hHR _ ⟨_,r,rfl,⟨h2,fun a' c' e=>by cases e;rfl⟩,h3⟩
 |some q=>exact h1.run a b hb1 U w σ hHR _ ⟨_,r,rfl,⟨h2,fun n' c' e=>by cases e⟩,h3⟩
theorem jxc(fr:Bool)(t:Ty):∀(G:Gr) (x:(Sh.d fr (.slice t)).den) (v:Value),VR G ((Sh.d fr (.slice t)).enc x) v→∃a n c,v= .slice a n c:=by
 intro G x v h;obtain⟨a,c,h,_⟩:=h;exact⟨_,_,_,h⟩
def j8:List (FuncId×Mdl)→FuncId→List Mdl
 |[],_=>[]
 |p::l,f=>bif Nat.beq p.1 f then p.2::j8 l f else j8 l f
theorem j2l{l:List (FuncId×Mdl)}(h:∀p∈l,MdlOK P p.1 p.2):∀f M,M∈j8 l f→MdlOK P f M:=by
 intro f M hM
 induction l with
 |nil=>simp[j8]at hM
 |cons p l ih=>
  unfold j8 at hM;cases hb:Nat.beq p.1 f with
  |false=>rw[hb]at hM;exact ih (fun q hq=>h q (List.mem_cons_of_mem _ hq)) hM
  |true=>
   rw[hb]at hM;rcases List.mem_cons.1 hM with rfl|hM
   ·rw[←aw hb];exact h p (List.mem_cons_self ..)
   ·exact ih (fun q hq=>h q (List.mem_cons_of_mem _ hq)) hM
def jay(P:Program):List (FuncId×Mdl)→Prop
 |[]=>True
 |p::l=>MdlOK P p.1 p.2∧jay P l
theorem jay.all{P:Program}:∀{l:List (FuncId×Mdl)},jay P l→∀p∈l,MdlOK P p.1 p.2
 |[],_,p,hp=>by simp at hp
 |q::l,h,p,hp=>by
  rcases List.mem_cons.1 hp with rfl|hp
  ·exact h.1
  ·exact jay.all h.2 p hp
def qpw(P:Program){Rf:Type}(X:Ctx Rf):List (Nat×Code)→Prop
 |[]=>True
 |p::l=>ao P X p.1 p.2∧qpw P X l
theorem qpw.all{P:Program}{Rf:Type}{X:Ctx Rf}{c:Code}{ann:Ann}{l:List (Nat×Code)}(h:po c ann=l)(hl:qpw P X l):∀p∈po c ann,ao P X p.1 p.2:=by
 rw[h];clear h
 induction l with
 |nil=>intro p hp;simp at hp
 |cons q l ih=>
  intro p hp;rcases List.mem_cons.1 hp with rfl|hp
  ·exact hl.1
  ·exact ih hl.2 p hp
def lm{Rf:Type}:List (Summ Rf)→Nat→Option (Summ Rf)
 |[],_=>none
 |σ::_,0=>some σ
 |_::l,n+1=>lm l n
end
end Go.K
namespace Go.K
open Go.M Go.RowKit Go.ChangeShapes Go.WideShapes Go.Deep
mutual
def Ty.good:(t:Ty)→t.den→Prop
 | .int k,n=> @LE.le Int _ k.min n∧ @LE.le Int _ n k.max
 | .bool,_=>True
 | .str,s=>ByteArray.size s≤maxLen
 | .slice t,xs=>List.length (α:=t.den) xs≤maxLen∧∀x:t.den,@Membership.mem t.den (List t.den) _ xs x→t.good x
 | .struct l,x=>l.good x
 | .tree _ _,_=>True
def TyL.good:(l:TyL)→l.den→Prop
 | .nil,_=>True
 | .cons t l,x=>t.good x.1∧l.good x.2
end
def jxi(tt:TT)(t:TypeId)(n:Nat):Bool:=match tt t with|some x=>Nat.beq x.sz n|none=>false
def jpw(tt:TT)(ok:TypeId→Ty→Bool):List (Nat×TypeId)→TyL→Nat→Bool
 |[], .nil,_=>true
 |(o,t)::fs, .cons u l,off=>Nat.beq o off&&(ok t u&&(jxi tt t u.sz&&jpw tt ok fs l (off+u.sz)))
 |_,_,_=>false
def jcq(ok:TypeId→Ty→Bool)(e:TypeId)(z:Nat):Nat→TyL→Bool
 |0, .nil=>true
 |n+1, .cons u l=>ok e u&&(Nat.beq u.sz z&&jcq ok e z n l)
 |_,_=>false
def jj6(tt:TT):Nat→TypeId→Ty→Bool
 |0,_,_=>false
 |n+1,t,u=>
  match u,tt t with
  | .int k,some ⟨.int k',_,_,_⟩=>decide (k=k')
  | .bool,some ⟨.bool,_,_,_⟩=>true
  | .str,some ⟨.str,_,_,_⟩=>true
  | .slice u,some ⟨.slice e,_,_,_⟩=>jj6 tt n e u&&(jxi tt e u.sz&&Nat.blt 0 u.sz)
  | .struct l,some ⟨.strct _ fs,sz,_,_⟩=>jpw tt (jj6 tt n) fs l 0&&Nat.beq l.sz sz
  | .struct l,some ⟨.arr _ k e,sz,_,_⟩=>match tt e with|some ei=>jcq (jj6 tt n) e ei.sz k l&&Nat.beq l.sz sz|none=>false
  |_,_=>false
section
variable {P : Program} {tt : TT}
theorem qm5(hF:c9 P tt){t:TypeId}{x:TI}(h:tt t=some x):P.cellsOf t=x.sz:=by
 obtain⟨i,d,z,h1,h2,h3,h4,_⟩:=(hF t x h).1;simp[Program.cellsOf,h1,h4]
theorem q7(hF:c9 P tt){t:TypeId}{x:TI}(h:tt t=some x):∃d,P.underlying t=some d∧TK.of d=x.k.plain:=by
 obtain⟨i,d,z,h1,h2,h3,_⟩:=(hF t x h).1;exact⟨d,h2,h3⟩
theorem jop(hF:c9 P tt){t:TypeId}{n:Nat}(h:jxi tt t n=true):P.cellsOf t=n:=by
 unfold jxi at h;split at h
 ·rename_i x hx;rw[qm5 hF hx];exact aw h
 ·cases h
theorem jt2{d:TypeDesc}{k:IntKind}(h:TK.of d= .int k):d= .int k:=by cases d<;>simp_all[TK.of]
theorem jnw{d:TypeDesc}(h:TK.of d= .bool):d= .bool:=by cases d<;>simp_all[TK.of]
theorem jt3{d:TypeDesc}(h:TK.of d= .str):d= .string:=by cases d<;>simp_all[TK.of]
theorem ji7{d:TypeDesc}{e:TypeId}(h:TK.of d= .slice e):d= .slice e:=by cases d<;>simp_all[TK.of]
theorem jt1{d:TypeDesc}{n:Nat}{e:TypeId}(h:TK.of d= .arr false n e):d= .array n e:=by cases d<;>simp_all[TK.of]
theorem ji8{d:TypeDesc}{l:List (Nat×TypeId)}(h:TK.of d= .strct false l):∃fs:Array Field,d= .struct fs∧(fs.toList.map fun f=>(f.offset,f.type))=l:=by
 cases d<;>simp_all[TK.of]
def jkj(P:Program)(t:TypeId)(u:Ty):Prop:=
 ∀(H:Type) (enc:TypeId×Value→H) (w:World) (sp:Nat→Bool) (held:Bool) (fuel:Nat) (cs:List Value) (x:DataW H×List MemPlace),DataW.trod enc P w 0 sp held fuel t cs=some x→
  ∃m:u.den,u.good m∧cs.length=u.sz∧∀f,f<u.sz→∃y,cs[f]? =some y∧y.oneCell' =true∧Ty.C w (fun _=>False) u m f y
theorem Opn.int{t:TypeId}{k:IntKind}(ht:P.underlying t=some (.int k)):jkj P t (.int k):=by
 intro H enc w sp held fuel cs x hx;obtain⟨n,rfl,_,hw⟩:=DataW.trod_int ht hx;simp only[Lit.wf,Bool.and_eq_true,decide_eq_true_eq]at hw;refine⟨n,hw,rfl,fun f hf=> ?_⟩;obtain rfl:f=0:=by simp[Ty.sz]at hf;omega
 exact⟨_,rfl,rfl,rfl⟩
theorem Opn.bool{t:TypeId}(ht:P.underlying t=some .bool):jkj P t .bool:=by
 intro H enc w sp held fuel cs x hx;obtain⟨b,rfl,_⟩:=DataW.trod_bool ht hx;refine⟨b,trivial,rfl,fun f hf=> ?_⟩;obtain rfl:f=0:=by simp[Ty.sz]at hf;omega
 exact⟨_,rfl,rfl,rfl⟩
theorem Opn.slice{t e:TypeId}{u:Ty}(h:jkj P e u)(ht:P.underlying t=some (.slice e))(hc:P.cellsOf e=u.sz)(h0:0<u.sz):jkj P t (.slice u):=by
 intro H enc w sp held fuel cs x hx;rcases open_slice ht hx with⟨rfl,_⟩|⟨a,len,cap,m,n,D,Pl,rfl,hb,hl,hm,hmm,_,hi⟩
 ·refine⟨([]:List u.den),⟨by simp[maxLen],fun x hx=>by simp at hx⟩,rfl,fun f hf=> ?_⟩;obtain rfl:f=0:=by simp[Ty.sz]at hf;omega
  exact⟨_,rfl,rfl,none,0,rfl,Nat.le_refl _,by simp[maxLen],fun h=>by simp at h⟩
 ·have hlm:len≤m:=by rw[hmm];split<;>omega
  have hel:∀i,i<len→∃y:u.den,u.good y∧∀f,f<u.sz→∃z,w.cell? (a.add (i*u.sz+f))=some z∧z.oneCell' =true∧Ty.C w (fun _=>False) u y f z:=by
   intro i hil;obtain⟨cs',h1,h2⟩:=hi i (by omega);rw[hc]at h1;obtain⟨_,hcl,hat⟩:=World.cells?_some h1;obtain⟨y,hy,hyl,hyc⟩:=h H enc w sp held n cs' _ h2;refine⟨y,hy,fun f hf=> ?_⟩;obtain⟨z,hz,h3⟩:=hyc f hf;exact⟨z,by rw[←Go.Deep.add_add,hat f hf];exact hz,h3⟩
  have hch:∃g:Nat→u.den,∀i,i<len→u.good (g i)∧∀f,f<u.sz→∃z,w.cell? (a.add (i*u.sz+f))=some z∧z.oneCell' =true∧Ty.C w (fun _=>False) u (g i) f z:=by
   refine⟨fun i=>if hi:i<len then Classical.choose (hel i hi)else u.dft,fun i hil=> ?_⟩;simp only[hil,dif_pos];exact Classical.choose_spec (hel i hil)
  obtain⟨g,hg⟩:=hch;refine⟨(List.range len).map g,⟨by simpa using by omega,fun y hy=> ?_⟩,rfl,fun f hf=> ?_⟩
  ·obtain⟨i,hir,rfl⟩:=List.mem_map.1 hy;exact(hg i (List.mem_range.1 hir)).1
  ·obtain rfl:f=0:=by simp[Ty.sz]at hf;omega
   refine⟨_,rfl,rfl,some a,cap,by simp,by simpa using hl,hm,fun h0' => ?_⟩;have hlen:0<len:=by simpa using h0'
   obtain⟨u0,hu0,_⟩:=(hg 0 hlen).2 0 h0;have hs:a.spot=none∧a.block<w.heap.size:=by
    unfold World.cell? at hu0;split at hu0
    ·rename_i hb';split at hu0
     ·cases hu0
     ·rename_i hsp;refine⟨by simpa[Addr.add]using hsp,?_⟩;have:=(Array.getElem?_eq_some_iff.1 hb').1;simpa[Addr.add]using this
    ·cases hu0
   obtain⟨b,o,s⟩:=a;obtain rfl:s=none:=hs.1;refine⟨b,o,rfl,hs.2,fun h=>h,fun i f hi' hf' => ?_⟩;have hil:i<len:=by simpa using hi'
   obtain⟨z,hz,h1,h2⟩:=(hg i hil).2 f hf';have ha:(⟨b,o,none⟩:Addr).add (i*u.sz+f)=⟨b,o+(i*u.sz+f),none⟩:=by
    unfold Addr.add;split
    ·rename_i h;simp[h]
    ·rfl
   refine⟨z,ha▸hz,h1,?_⟩;have e:List.getD (α:=u.den) ((List.range len).map g) i u.dft=g i:=by simp[List.getD_eq_getElem?_getD,hil]
   rw[e];exact h2
theorem q3y{H:Type}{enc:TypeId×Value→H}{w:World}{sp:Nat→Bool}{held:Bool}{n:Nat}{cs:List Value}(hF:c9 P tt){ok:TypeId→Ty→Bool}(hok:∀t u,ok t u=true→jkj P t u):
  ∀(fs:List (Nat×TypeId)) (l:TyL) (off:Nat),jpw tt ok fs l off=true→(∀p∈fs,∃y,DataW.trod enc P w 0 sp held n p.2 ((cs.drop p.1).take (P.cellsOf p.2))=some y)→
   ∃x:l.den,l.good x∧∀f,f<l.sz→∃u,cs[off+f]? =some u∧u.oneCell' =true∧TyL.C w (fun _=>False) l x f u
 |[], .nil,off,_,_=>⟨(),trivial,fun f hf=>by simp[TyL.sz]at hf⟩
 |[], .cons _ _,off,h,_=>by simp[jpw]at h
 |_::_, .nil,off,h,_=>by simp[jpw]at h
 |(o,t)::fs, .cons u l,off,h,hr=>by
  simp only[jpw,Bool.and_eq_true]at h;obtain⟨h1,h2,h3,h4⟩:=h;have ho:=aw h1;subst ho;have hc:=jop hF h3;obtain⟨y,hy⟩:=hr (o,t) (List.mem_cons_self ..);obtain⟨x1,g1,_,c1⟩:=hok t u h2 H enc w sp held n _ y hy;obtain⟨x2,g2,c2⟩:=q3y hF hok fs l (o+u.sz) h4 (fun p hp=>hr p (List.mem_cons_of_mem _ hp));refine⟨(x1,x2),⟨g1,g2⟩,fun f hf=> ?_⟩;unfold TyL.sz at hf;show∃u',cs[o+f]? =some u' ∧u'.oneCell' =true∧(if f<u.sz then Ty.C w (fun _=>False) u x1 f u' else TyL.C w (fun _=>False) l x2 (f-u.sz) u');by_cases hlt:f<u.sz
  ·simp only[if_pos hlt];obtain⟨u',hu',hh⟩:=c1 f hlt;simp only[hc]at hu';rw[List.getElem?_take,if_pos hlt,List.getElem?_drop]at hu';exact⟨u',hu',hh⟩
  ·simp only[if_neg hlt];obtain⟨u',hu',hh⟩:=c2 (f-u.sz) (by omega);refine⟨u',?_,hh⟩;rw[←hu'];congr 1;omega
theorem q7y{H:Type}{enc:TypeId×Value→H}{w:World}{sp:Nat→Bool}{held:Bool}{n:Nat}{cs:List Value}{e:TypeId}{z:Nat}(hz:P.cellsOf e=z){ok:TypeId→Ty→Bool}(hok:∀t u,ok t u=true→jkj P t u):
  ∀(k:Nat) (l:TyL) (i0:Nat),jcq ok e z k l=true→(∀i,i<k→∃y,DataW.trod enc P w 0 sp held n e ((cs.drop ((i0+i)*z)).take z)=some y)→
   ∃x:l.den,l.good x∧∀f,f<l.sz→∃u,cs[i0*z+f]? =some u∧u.oneCell' =true∧TyL.C w (fun _=>False) l x f u
 |0, .nil,i0,_,_=>⟨(),trivial,fun f hf=>by simp[TyL.sz]at hf⟩
 |0, .cons _ _,i0,h,_=>by simp[jcq]at h
 |_+1, .nil,i0,h,_=>by simp[jcq]at h
 |k+1, .cons u l,i0,h,hr=>by
  simp only[jcq,Bool.and_eq_true]at h;obtain⟨h1,h2,h3⟩:=h;have hu:=aw h2;obtain⟨y,hy⟩:=hr 0 (by omega);obtain⟨x1,g1,_,c1⟩:=hok e u h1 H enc w sp held n _ y hy;obtain⟨x2,g2,c2⟩:=q7y hz hok k l (i0+1) h3 (fun i hi=>by have:=hr (i+1) (by omega);rwa[show i0+(i+1)=i0+1+i by omega]at this);refine⟨(x1,x2),⟨g1,g2⟩,fun f hf=> ?_⟩;unfold TyL.sz at hf;show∃u',cs[i0*z+f]? =some u' ∧u'.oneCell' =true∧(if f<u.sz then Ty.C w (fun _=>False) u x1 f u' else TyL.C w (fun _=>False) l x2 (f-u.sz) u');by_cases hlt:f<u.sz
  ·simp only[if_pos hlt];obtain⟨u',hu',hh⟩:=c1 f hlt;rw[List.getElem?_take,if_pos (by omega),List.getElem?_drop]at hu';exact⟨u',by simpa using hu',hh⟩
  ·simp only[if_neg hlt];obtain⟨u',hu',hh⟩:=c2 (f-u.sz) (by omega);refine⟨u',?_,hh⟩;rw[←hu'];congr 1;rw[Nat.add_mul];omega
theorem j7k(hF:c9 P tt):∀(n:Nat) (t:TypeId) (u:Ty),jj6 tt n t u=true→jkj P t u:=by
 intro n
 induction n with
 |zero=>intro t u h;simp[jj6]at h
 |succ n ih=>
  intro t u h;unfold jj6 at h;split at h
  ·rename_i k k' a1 a2 a3 ht;have hk:k=k' :=by simpa using h
   subst hk;obtain⟨d,hd,hk⟩:=q7 hF ht;exact Opn.int (jt2 hk▸hd)
  ·rename_i a1 a2 a3 ht;obtain⟨d,hd,hk⟩:=q7 hF ht;exact Opn.bool (jnw hk▸hd)
  ·rename_i a1 a2 a3 ht;obtain⟨d,hd,hk⟩:=q7 hF ht;have hs:=jt3 hk;subst hs;intro H enc w sp held fuel cs x hx;obtain⟨s,rfl,_,hsz⟩:=DataW.trod_string hd hx;refine⟨s,hsz,rfl,fun f hf=> ?_⟩;obtain rfl:f=0:=by simp[Ty.sz]at hf;omega
   exact⟨_,rfl,rfl,rfl⟩
  ·rename_i u e a1 a2 a3 ht;simp only[Bool.and_eq_true]at h;obtain⟨h1,h2,h3⟩:=h;obtain⟨d,hd,hk⟩:=q7 hF ht;exact Opn.slice (ih e u h1) (ji7 hk▸hd) (jop hF h2) (cz h3)
  ·rename_i l c fs sz a2 a3 ht;simp only[Bool.and_eq_true]at h;obtain⟨h1,h2⟩:=h;obtain⟨d,hd,hk⟩:=q7 hF ht;obtain⟨fs',hfs,hl⟩:=ji8 hk;subst hfs;intro H enc w sp held fuel cs x hx;obtain⟨xs,m,hf,_,hcl,hxl,hfl⟩:=DataW.trod_struct hd hx;obtain⟨y,gy,cy⟩:=q3y (H:=H) (enc:=enc) (w:=w) (sp:=sp) (held:=held) (n:=m) (cs:=cs) hF ih fs l 0 h1 (by
    intro p hp;rw[←hl]at hp;obtain⟨f,hfm,rfl⟩:=List.mem_map.1 hp;obtain⟨i,hi,hif⟩:=List.getElem_of_mem hfm;have hfi:fs'[i]? =some f:=by rw[←hif];simp at hi;simp[hi]
    have h4:=hfl i f hfi;have hi' :i<fs'.size:=by simpa using hi
    rw[List.getElem?_eq_getElem (by omega)]at h4;exact⟨_,h4⟩)
   have hsz:cs.length=l.sz:=by rw[hcl,qm5 hF ht];exact(aw h2).symm
   exact⟨y,gy,hsz,fun f hf=>by have:=cy f hf;rw[Nat.zero_add]at this;exact this⟩
  ·rename_i l c k e sz a2 a3 ht;split at h
   ·rename_i ei he;simp only[Bool.and_eq_true]at h;obtain⟨h1,h2⟩:=h;obtain⟨d,hd,hk⟩:=q7 hF ht;have hd' :=jt1 hk;subst hd';intro H enc w sp held fuel cs x hx;obtain⟨xs,m,hf,_,hcl,hxl,hfl⟩:=DataW.trod_array hd hx;have hz:=qm5 hF he;obtain⟨y,gy,cy⟩:=q7y (H:=H) (enc:=enc) (w:=w) (sp:=sp) (held:=held) (n:=m) (cs:=cs) hz ih k l 0 h1 (by
     intro i hi;have h4:=hfl i hi;rw[List.getElem?_eq_getElem (by omega),hz]at h4;exact⟨_,by simpa using h4⟩)
    have hsz:cs.length=l.sz:=by rw[hcl,qm5 hF ht];exact(aw h2).symm
    exact⟨y,gy,hsz,fun f hf=>by have:=cy f hf;rw[Nat.zero_mul,Nat.zero_add]at this;exact this⟩
   ·cases h
  ·cases h
def qvm(tt:TT):List TypeId→ShL→Bool
 |[], .nil=>true
 |t::ts, .cons (.d _ u) l=>jj6 tt 12 t u&&qvm tt ts l
 |_,_=>false
def ShL.good:(l:ShL)→l.den→Prop
 | .nil,_=>True
 | .cons (.d _ t) l,x=>t.good x.1∧l.good x.2
 | .cons _ l,x=>l.good x.2
def gr0(w:World):Gr:=gr (fun _=>False) (vw []) w (fun _=>none)
theorem jxq{w:World}{u:Ty}{x:u.den}{f:Nat}{v:Value}(h:Ty.C w (fun _=>False) u x f v)(fr:Bool):Ty.C w (YY (gr0 w).X (gr0 w).U fr) u x f v:=by
 refine Ty.C_low ⟨Nat.le_refl _,fun b _ _ hY=> ?_,fun _ _ _=>rfl⟩ u x f v h;rcases hY with⟨T,o,hT⟩|⟨_,e⟩
 ·cases hT
 ·exact e
theorem jcp{H:Type}{enc:TypeId×Value→H}{W:World}{sp:Nat→Bool}{held:Bool}{base:Nat}(hF:c9 P tt):∀(ts:List TypeId) (l:ShL),qvm tt ts l=true→∀(vs:List Value) (ds:List (DataW H)) (ps:List MemPlace),
  DataW.TrodAll enc P W 0 sp held ts vs ds ps→(∀(j:Nat) t v,ts[j]? =some t→vs[j]? =some v→Value.okWide P W .any base t v)→
  ∃a:l.den,l.good a∧fj (gr0 W) (l.enc a) vs
 |[], .nil,_,vs,ds,ps,h,_=>by
  obtain⟨rfl,_,_⟩:=trodAll_nil h;exact⟨(),trivial,rfl⟩
 |[], .cons _ _,h,_,_,_,_,_=>by simp[qvm]at h
 |_::_, .nil,h,_,_,_,_,_=>by simp[qvm]at h
 |t::ts, .cons (.rp _ _) l,h,_,_,_,_,_=>by simp[qvm]at h
 |t::ts, .cons (.kid _ _) l,h,_,_,_,_,_=>by simp[qvm]at h
 |t::ts, .cons (.nl _ _) l,h,_,_,_,_,_=>by simp[qvm]at h
 |t::ts, .cons (.nf _) l,h,_,_,_,_,_=>by simp[qvm]at h
 |t::ts, .cons (.fn _ _) l,h,_,_,_,_,_=>by simp[qvm]at h
 |t::ts, .cons (.agg _) l,h,_,_,_,_,_=>by simp[qvm]at h
 |t::ts, .cons (.own _) l,h,_,_,_,_,_=>by simp[qvm]at h
 |t::ts, .cons (.ptr _) l,h,_,_,_,_,_=>by simp[qvm]at h
 |t::ts, .cons .e l,h,_,_,_,_,_=>by simp[qvm]at h
 |t::ts, .cons (.d fr u) l,h,vs,ds,ps,hA,hval=>by
  simp only[qvm,Bool.and_eq_true]at h;obtain⟨v,vs',d,ds',p,q,rfl,rfl,rfl,h1,h2⟩:=trodAll_cons hA;obtain⟨a2,g2,c2⟩:=jcp hF ts l h.2 vs' ds' q h2 (fun j t' v' hj hv=>hval (j+1) t' v' (by simpa using hj) (by simpa using hv));have hv0:=hval 0 t v rfl rfl;have key:∃x:u.den,u.good x∧VR (gr0 W) (jau fr u x) v:=by
   have hop:=j7k hF 12 t u h.1;obtain⟨fuel,hf⟩:=h1;obtain⟨x,gx,hl,hc⟩:=hop H enc W sp held fuel _ _ hf;refine⟨x,gx,?_⟩;have one:u.sz=1→v.cells= #[v]→Ty.C W (fun _=>False) u x 0 v:=by
    intro hu hv;obtain⟨u',hu',_,hV⟩:=hc 0 (by omega);rw[hv]at hu';simp at hu';subst hu';exact hV
   have hty:=h.1;unfold jj6 at hty;split at hty
   ·rename_i k k' a1 a2 a3 ht;obtain⟨d',hd,hk⟩:=q7 hF ht;have:=jt2 hk;subst this;obtain⟨m,rfl⟩:=okWide_int hd hv0;exact one rfl rfl
   ·rename_i a1 a2 a3 ht;obtain⟨d',hd,hk⟩:=q7 hF ht;have:=jnw hk;subst this;obtain⟨m,rfl⟩:=okWide_bool hd hv0;exact one rfl rfl
   ·rename_i a1 a2 a3 ht;obtain⟨d',hd,hk⟩:=q7 hF ht;have:=jt3 hk;subst this;obtain⟨m,rfl⟩:=okWide_string hd hv0;exact one rfl rfl
   ·rename_i u' e a1 a2 a3 ht;obtain⟨d',hd,hk⟩:=q7 hF ht;have:=ji7 hk;subst this;obtain⟨a,len,cap,rfl⟩:=okWide_slice hd hv0;exact jxq (u:= .slice u') (one rfl rfl) fr
   ·rename_i l' c fs sz a2 a3 ht;obtain⟨d',hd,hk⟩:=q7 hF ht;obtain⟨fs',hfs,_⟩:=ji8 hk;subst hfs;have hv1:=hv0;unfold Value.okWide at hv1;rw[hd]at hv1;obtain⟨cs,rfl,_⟩:=hv1;exact strct hl hc
   ·rename_i l' c k e sz a2 a3 ht;obtain⟨d',hd,hk⟩:=q7 hF ht;have:=jt1 hk;subst this;have hv1:=hv0;unfold Value.okWide at hv1;rw[hd]at hv1;obtain⟨cs,rfl,_⟩:=hv1;exact strct hl hc
   ·cases hty
  obtain⟨x,gx,hV⟩:=key;exact⟨(x,a2),⟨gx,g2⟩,v,vs',rfl,hV,c2⟩
 where
 strct {W:World} {fr:Bool} {l' :TyL} {x:l'.den} {cs:Array Value} (hl:(Value.cells (.agg cs)).toList.length=(Ty.struct l').sz) (hc:∀f,f<(Ty.struct l').sz→∃u,(Value.cells (.agg cs)).toList[f]? =some u∧u.oneCell' =true∧Ty.C W (fun _=>False) (.struct l') x f u):
   VR (gr0 W) (jau fr (.struct l') x) (.agg cs):=by
  have hlen:(TyL.cells fr l' x).length=l'.sz:=TyL.cells_len fr l' x;have hcl:cs.toList.length=l'.sz:=hl;refine⟨cs.toList,by simp,fj.of (by rw[hcl,hlen]) (fun j A u hA hu=> ?_),fun u hu=> ?_⟩
  ·have hj:j<l'.sz:=by rw[←hlen];exact(List.getElem?_eq_some_iff.1 hA).1
   obtain⟨y,hy,_,h2⟩:=hc j hj;have hy' :cs.toList[j]? =some y:=by simpa[Value.cells]using hy
   rw[hu]at hy';cases hy';have h3:=(Ty.C_iff (gr0 W) fr (.struct l') x j u hj).1 (jxq h2 fr);have e:(Ty.cells fr (.struct l') x).getD j .any=A:=by
    have hA' :(Ty.cells fr (.struct l') x)[j]? =some A:=hA;rw[List.getD_eq_getElem?_getD,hA'];rfl
   rw[e]at h3;exact h3
  ·obtain⟨i,hi,hiu⟩:=List.getElem_of_mem hu;obtain⟨y,hy,h1,_⟩:=hc i (by show i<l'.sz;omega);have hy' :cs.toList[i]? =some y:=by simpa[Value.cells]using hy
   rw[List.getElem?_eq_getElem hi,hiu]at hy';cases hy';exact h1
theorem qvi{H:Type}{enc:TypeId×Value→H}(hl:laidOutB P=true){W W' :World}{sp:Nat→Bool}(hb:Below W.heap.size W W'):∀{ts:List TypeId} {vs:List Value} {ds:List (DataW H)} {ps:List MemPlace},
  ts.all (fun t=>P.readableRec t&&decide (t<P.types.size))=true→DataW.TrodAll enc P W 0 (fun _=>true) true ts vs ds ps→(∀x∈ps,x.block<W.heap.size)→(∀x∈ps,sp x.block=true)→DataW.TrodAll enc P W' 0 sp true ts vs ds ps
 |[],[],[],_,_,h,_,_=>h
 |[],_::_,_,_,_,h,_,_=>h.elim
 |[],[],_::_,_,_,h,_,_=>h.elim
 |_::_,[],_,_,_,h,_,_=>h.elim
 |_::_,_::_,[],_,_,h,_,_=>h.elim
 |t::ts,v::vs,d::ds,ps,hr,h,hlt,hsp=>by
  obtain⟨p,q,h1,h2,e⟩:=h;subst e;simp only[List.all_cons,Bool.and_eq_true,decide_eq_true_eq]at hr;exact⟨p,q,WideElems.Trod_stays hl hr.1.1 hr.1.2 h1 (fun x hx=>hb.same (hlt x (List.mem_append_left _ hx))) (fun x hx=>hsp x (List.mem_append_left _ hx)),
   qvi hl hb hr.2 h2 (fun x hx=>hlt x (List.mem_append_right _ hx)) (fun x hx=>hsp x (List.mem_append_right _ hx)),rfl⟩
theorem jb5{H:Type}{enc:TypeId×Value→H}{f:Func}{s:ChangeSpec}{apart fresh handsOn again:Bool}{W W' :World}{args:Array Value}{v:Value}{ds gs:List (DataW H)}{before pa pv:List MemPlace}
  (hW:DataW.Whole enc P f.params.toList s.vars apart W args.toList ds gs before)
  (hres:∀(b:Nat) (sp:Nat→Bool) (hd:Bool),DataW.TrodAll enc P W' b sp hd f.resultTypes.toList (v.resultList f.resultTypes.size) (s.fn H (ds++gs)).results [])
  (hargs:∀sp:Nat→Bool,(∀p∈before,sp p.block=true)→DataW.TrodAll enc P W' 0 sp true f.params.toList args.toList (s.fn H (ds++gs)).args pa)
  (hvars:∀sp:Nat→Bool,(∀p∈before,sp p.block=true)→DataW.TrodVars enc P W' sp s.vars (s.fn H (ds++gs)).vars pv)
  (hps:before=pa++pv) (hb:Below W.heap.size W W')
  (hok:∀(j:Nat) (t:TypeId) (r:Value),f.resultTypes[j]? =some t→(v.resultList f.resultTypes.size)[j]? =some r→Value.okWide P W' .any 0 t r):
  s.post enc P f apart fresh handsOn again W args v W' :=by
 have hlt:∀p∈before,p.block<W.heap.size:=fun p hp=>hW.lt p hp
 have hold:∀p∈before,(fun b=>decide (b<W.heap.size)) p.block=true:=fun p hp=>by simpa using hlt p hp
 refine⟨ds,gs,before,[],pa,pv,hW,hres _ _ _,hargs _ hold,hvars _ hold,World.keptBut_mono (fun p hp=>⟨hp,?_⟩) (hb.frame (·∈before)),fun _=> ?_⟩
 ·rw[hps,List.mem_append]at hp;exact Or.inr hp
 ·obtain⟨_,_,_,_,_,hz,hn⟩:=hW;refine⟨hok,_,_,([]++pa)++pv,⟨[]++pa,pv,trodAll_append (hargs _ (fun _ _=>rfl)) (hres _ _ _),hvars _ (fun _ _=>rfl),rfl,?_,?_⟩,?_⟩
  ·intro b off hp;have hin:MemPlace.cell b off∈before:=by rw[hps];simpa using hp
   rw[hb.frozen (hlt _ hin)];exact hz b off hin
  ·intro ha;have:=hn ha;rw[hps]at this;simpa using this
  ·intro p hp _;rw[hps];simpa using hp
theorem HR0(w:World)(ht:Tbo w (fun _=>none)):HR (fun _=>False) w (fun _=>none) (br []) (vw []) w (fun _=>none):=by
 refine⟨(fun T T' g o o' h=>by cases h),(fun T p h=>by cases h),fun T v hv=> ?_,(fun T g o h=>by cases h),rfl,rfl,rfl,Nat.le_refl _,(fun _ _ _=>rfl),(fun _ _=>rfl),(fun t g o _ h=>by cases h),fun b h=>h.elim,ht⟩;cases T<;>simp[vw]at hv
theorem jf2{H:Type}{enc:TypeId×Value→H}{F:FuncId}{f:Func}{s:ChangeSpec}{apart fresh handsOn again:Bool}{W:World}{args:Array Value}{ds:List (DataW H)}{before:List MemPlace}{rt:TypeId}{base:Nat}(hF:c9 P tt)(ht:Tbo W (fun _=>none))
  {l:ShL} {m:l.den×kd []→Option Bool} (hM:MdlOK P F (ay l [] [] 1 ⟨[(0, .d true .bool)],[]⟩ (fun(b:Bool)=>((b,()),())) m)) (har:qvm tt f.params.toList l=true) (htrue:∀a:l.den,l.good a→m (a,())=some true)
  (hl:laidOutB P=true) (hr:f.params.toList.all (fun t=>P.readableRec t&&decide (t<P.types.size))=true)
  (hv0:s.vars=[]) (hW:DataW.Whole enc P f.params.toList s.vars apart W args.toList ds [] before) (hA:DataW.TrodAll enc P W 0 (fun _=>true) true f.params.toList args.toList ds before)
  (hval:∀(j:Nat) t v,f.params[j]? =some t→args[j]? =some v→Value.okWide P W .any base t v)
  (hsr:(s.fn H (ds++[])).results=[.lit (.bool true)]) (hsa:(s.fn H (ds++[])).args=ds) (hsv:(s.fn H (ds++[])).vars=[]) (hrt:f.resultTypes= #[rt]) (hbt:P.underlying rt=some .bool):
  Calls P F args W fun e W' =>∃v,e= .returned v∧s.post enc P f apart fresh handsOn again W args v W' :=by
 obtain⟨a,ga,hc⟩:=jcp hF f.params.toList l har args.toList ds before hA (fun j t v hj hv=>hval j t v (by simpa using hj) (by simpa using hv));have hrun:=hM.run (a,()) true (htrue a ga) (fun _=>False) W (fun _=>none) (HR0 W ht) args.toList hc;rw[Array.toArray_toList]at hrun;refine hrun.mono fun e W' => ?_
 rintro⟨v,σ',rfl,hS,hV⟩;have hb:Below W.heap.size W W' :=⟨hS.os,hS.tape,hS.output,hS.size,fun k hk=>hS.blk k hk (by simp)⟩;have hv:v= .bool true:=hV;subst hv;refine⟨_,rfl,jb5 (pa:=before) (pv:=[]) hW ?_ ?_ ?_ (by simp) hb ?_⟩
 ·intro b sp hd;rw[hsr,hrt];exact trodAll_mk1 (shut_bool hbt true)
 ·intro sp hsp;rw[hsa];exact qvi hl hb hr hA (fun x hx=>hW.lt x hx) hsp
 ·intro sp hsp;rw[hsv,hv0];exact rfl
 ·exact ok_one hrt rfl (okWide_bool_mk hbt true)
theorem q4r{H:Type}{enc:TypeId×Value→H}{W:World}{sp:Nat→Bool}{held:Bool}:∀{ts:List TypeId} {vs:List Value} {ds:List (DataW H)} {ps:List MemPlace},DataW.TrodAll enc P W 0 sp held ts vs ds ps→ds.length=ts.length
 |[],vs,ds,ps,h=>by obtain⟨_,rfl,_⟩:=trodAll_nil h;rfl
 |t::ts,vs,ds,ps,h=>by
  obtain⟨v,vs',d,ds',p,q,rfl,rfl,rfl,h1,h2⟩:=trodAll_cons h;simp[q4r h2]
end
end Go.K
namespace Go.M
open Go.K
theorem qir{α:Type}{c:Bool}(h:c=true)(m:Option α):ak c m=m:=by subst h;rfl
theorem qw2{α:Type}{c:Bool}(h:c=true)(a b:α):(bif c then a else b)=a:=by subst h;rfl
theorem qw0{α:Type}{c:Bool}(h:c=false)(a b:α):(bif c then a else b)=b:=by subst h;rfl
theorem j2q{i:Nat}{n:Nat}(h:i<n):ix (i:Int) n=true:=by simp[ix,h]
theorem qys{n:Int}(h1: -9223372036854775808≤n)(h2:n≤9223372036854775807):di .i64 n=true:=by simp only[di,Bool.and_eq_true,jnl];exact⟨h1,h2⟩
theorem qrs{S E R:Type}{step:S→Option (LR S E R)}(st:Nat→S)(n:Nat)(hn:n<many)(p:Nat→Bool)(e:E)(r:R)
  (h:∀i,i<n→p i=true→step (st i)=some (.next (st (i+1)))) (hf:∀i,i<n→p i=false→step (st i)=some (.ret r)) (hd:step (st n)=some (.done e)):
  bt step (st 0)=some (bif (List.range n).all p then .inl e else .inr r):=by
 by_cases hall:∀i,i<n→p i=true
 ·have:(List.range n).all p=true:=by simpa using hall
  rw[this];exact qns st n hn (.inl e) (fun i hi=>h i hi (hall i hi)) hd
 ·have hex:∃i,i<n∧p i=false:=by
   refine Classical.byContradiction fun hne=>hall fun i hi=> ?_
   cases hp:p i with
   |true=>rfl
   |false=>exact absurd ⟨i,hi,hp⟩ hne
  have hmin:∃k,k<n∧p k=false∧∀i,i<k→p i=true:=by
   obtain⟨i,hi,hp⟩:=hex
   induction i using Nat.strongRecOn with
   |_ i ih=>
    by_cases hlow:∀j,j<i→p j=true
    ·exact⟨i,hi,hp,hlow⟩
    ·have:∃j,j<i∧p j=false:=by
      refine Classical.byContradiction fun hne=>hlow fun j hj=> ?_
      cases hq:p j with
      |true=>rfl
      |false=>exact absurd ⟨j,hj,hq⟩ hne
     obtain⟨j,hj,hq⟩:=this;exact ih j hj (by omega) hq
  obtain⟨k,hk,hp,hlow⟩:=hmin;have:(List.range n).all p=false:=by
   rw[List.all_eq_false];exact⟨k,by simpa using hk,by simp[hp]⟩
  rw[this];exact q8v st k (by omega) (.ret r) (.inr r) rfl (fun i hi=>h i (by omega) (hlow i hi)) (hf k hk hp)
theorem ct{S E R:Type}{step:S→Option (LR S E R)}(st:Nat→S)(n:Nat)(hn:n<many)(e:E)(h:∀i,i<n→step (st i)=some (.next (st (i+1))))(hd:step (st n)=some (.done e))(s:S)(hs:s=st 0):
  bt step s=some (.inl e):=by
 subst hs;exact qns st n hn (.inl e) h hd
theorem qf4{α:Type}(xs:List α)(i:Nat)(d:α)(h:i<xs.length):xs.getD i d=xs[i]:=by simp[List.getD_eq_getElem?_getD,h]
theorem ff{α:Type}(l:List α)(i:Nat)(d:α)(h:i<l.length):l.take (i+1)=l.take i++[l.getD i d]:=by
 rw[List.take_add_one,qf4 l i d h];simp[h]
theorem rf{α:Type}{l:List α}{x:α}(d:α)(h:x∈l):∃i,i<l.length∧l.getD i d=x:=by
 obtain⟨i,hi,rfl⟩:=List.getElem_of_mem h;exact⟨i,hi,qf4 l i d hi⟩
theorem ba{α:Type}{l:List α}{i:Nat}(d:α)(h:i<l.length):l.getD i d∈l:=by
 rw[qf4 l i d h];exact List.getElem_mem h
theorem jew{α:Type}{i:Int}{n:Nat}{m:Option α}(h0:0≤i)(h1:i<(n:Int)):ak (ix i n) m=m:=qir (by simp[ix,h0,h1]) m
theorem jev{α:Type}{e:Int}{m:Option α}(h0: -9223372036854775808≤e)(h1:e≤9223372036854775807):ak (di .i64 e) m=m:=qir (qys h0 h1) m
theorem qw7{α:Type}{n b:Nat}{m:Option α}(h0:n≤9223372036854775807)(h1:n*b≤140737488355328):ak (room n b) m=m:=qir (by simp[room,h0,h1]) m
theorem jmw{α:Type}{l h:Int}{n:Nat}{m:Option α}(h0:0≤l)(h1:l≤h)(h2:h≤(n:Int)):ak (cut l h n) m=m:=qir (by simp[cut,h0,h1,h2]) m
theorem j0c{α:Type}{l c:Int}{b:Nat}{m:Option α}(h0:0≤l)(h1:l≤c)(h2:(b:Int)*c≤281474976710656)(h3:c≤9223372036854775807):ak (qv2 l c b) m=m:=qir (by simp[qv2,h0,h1,h2,h3]) m
theorem jex{α:Type}{a b:Int}{m:Option α}(h:a≠b):ak (!decide (a=b)) m=m:=qir (by simp[h]) m
theorem q7a{α:Type}{a b:Int}{x y:α}(h:a<b):(bif decide (a<b)then x else y)=x:=qw2 (by simp[h]) x y
theorem qta{α:Type}{a b:Int}{x y:α}(h:b≤a):(bif decide (a<b)then x else y)=y:=qw0 (by simp;omega) x y
theorem jep{α:Type}{a b:Int}{x y:α}(h:a≤b):(bif decide (a≤b)then x else y)=x:=qw2 (by simp[h]) x y
theorem q6m{α:Type}{a b:Int}{x y:α}(h:b<a):(bif decide (a≤b)then x else y)=y:=qw0 (by simp;omega) x y
theorem jko{α:Type}{a b:Int}{x y:α}(h:a=b):(bif decide (a=b)then x else y)=x:=qw2 (by simp[h]) x y
theorem jeq{α:Type}{a b:Int}{x y:α}(h:a≠b):(bif decide (a=b)then x else y)=y:=qw0 (by simp[h]) x y
theorem jrv{α:Type}{a b:Int}{x y:α}(h:a≠b):(bif !decide (a=b)then x else y)=x:=qw2 (by simp[h]) x y
theorem qmr{α:Type}{a b:Int}{x y:α}(h:a=b):(bif !decide (a=b)then x else y)=y:=qw0 (by simp[h]) x y
theorem qw1{α:Type}{c:Bool}{x y:α}:(bif !c then x else y)=(bif c then y else x):=by cases c<;>rfl
theorem t7{α:Type}{x y:α}:(bif true then x else y)=x:=rfl
theorem qgg{α:Type}{x y:α}:(bif false then x else y)=y:=rfl
end Go.M
namespace Go.M
open Go.K
theorem bw{n:Nat}(h:n≤9223372036854775807):n<many:=by unfold many;omega
theorem al(i:Nat):((i:Int)+1)=((i+1:Nat):Int):=by omega
theorem q7e{α:Type}{m:Option α}:ak true m=m:=rfl
abbrev bg{α:Type}(N:Nat)(f:Nat→α):List α:=(List.range N).map f
theorem om{α:Type}(N:Nat)(f:Nat→α):(bg N f).length=N:=by simp[bg]
theorem wa{α:Type}{N:Nat}{f:Nat→α}{v:Nat}{d:α}(h:v<N):(bg N f).getD v d=f v:=by simp[bg,List.getD_eq_getElem?_getD,h]
theorem f5{α:Type}{N:Nat}{f g:Nat→α}(h:∀v,v<N→f v=g v):bg N f=bg N g:=List.map_congr_left fun v hv=>h v (List.mem_range.1 hv)
theorem qto{α:Type}{N:Nat}{f:Nat→α}{w:Nat}{x:α}:(bg N f).set w x=bg N (fun v=>if v=w then x else f v):=by
 refine List.ext_getElem (by simp[bg]) fun i h1 h2=> ?_
 simp only[List.getElem_set,bg,List.getElem_map,List.getElem_range];by_cases e:i=w
 ·simp[e]
 ·simp[e,Ne.symm e]
theorem jor{α:Type}(N:Nat)(x:α):List.replicate N x=bg N (fun _=>x):=by
 refine List.ext_getElem (by simp[bg]) fun i h1 h2=> ?_
 simp[bg]
theorem qs1{α:Type}(l:List α)(d:α):l=bg l.length fun i=>l.getD i d:=by
 refine List.ext_getElem (by simp[bg]) fun i h1 h2=> ?_
 simp[bg,List.getD_eq_getElem?_getD,h1]
theorem qz5{α:Type}(N:Nat)(f:Nat→α):bg (N+1) f=bg N f++[f N]:=by simp[bg,List.range_succ]
theorem joq{α:Type}{N:Nat}{f:Nat→α}{x:α}:x∈bg N f↔∃i,i<N∧f i=x:=by simp[bg]
theorem jrp{α:Type}(l:List α)(d:α)(p:α→Bool):(List.range l.length).all (fun i=>p (l.getD i d))=l.all p:=by
 rw[Bool.eq_iff_iff,List.all_eq_true,List.all_eq_true];constructor
 ·intro h x hx;obtain⟨i,hi,rfl⟩:=rf d hx;exact h i (List.mem_range.2 hi)
 ·intro h i hi;exact h _ (ba d (List.mem_range.1 hi))
def au(f:Nat→Int):Nat→Int
 |0=>0
 |n+1=>au f n+f n
theorem bu{f g:Nat→Int}:∀{n:Nat},(∀k,k<n→f k=g k)→au f n=au g n
 |0,_=>rfl
 |n+1,h=>by rw[au,au,bu fun k hk=>h k (by omega),h n (by omega)]
theorem qew(f g:Nat→Int):∀n,au (fun k=>f k+g k) n=au f n+au g n
 |0=>rfl
 |n+1=>by simp only[au,qew f g n];omega
theorem m9(c:Int)(f:Nat→Int):∀n,au (fun k=>c*f k) n=c*au f n
 |0=>by simp[au]
 |n+1=>by simp only[au,m9 c f n,Int.mul_add]
theorem jq6(c:Int)(f:Nat→Int)(n:Nat):au (fun k=>f k*c) n=au f n*c:=by
 rw[Int.mul_comm,←m9];exact bu fun k _=>Int.mul_comm _ _
theorem q22:∀n,au (fun _=>0) n=0
 |0=>rfl
 |n+1=>by simp only[au,q22 n];rfl
theorem tx{f:Nat→Int}{n:Nat}(h:∀k,k<n→f k=0):au f n=0:=(bu h).trans (q22 n)
theorem jd5(f:Nat→Nat→Int):∀n m,au (fun i=>au (fun j=>f i j) m) n=au (fun j=>au (fun i=>f i j) n) m
 |0,m=>by simp only[au];exact(q22 m).symm
 |n+1,m=>by simp only[au,jd5 f n m,qew]
theorem jal{f:Nat→Int}{b:Int}:∀(n:Nat),(∀k,k<n→-b≤f k∧f k≤b)→-((n:Int)*b)≤au f n∧au f n≤(n:Int)*b:=by
 intro n
 induction n with
 |zero=>intro _;simp[au]
 |succ n ih=>
  intro h;have h1:=ih fun k hk=>h k (by omega)
  have h2:=h n (by omega);have e:((n+1:Nat):Int)*b=(n:Int)*b+b:=by rw[Int.natCast_add,Int.add_mul];simp
  have e2:au f (n+1)=au f n+f n:=rfl;rw[e,e2];omega
theorem qex{f:Nat→Int}{i:Nat}:∀{n:Nat},i<n→(∀k,k<n→k≠i→f k=0)→au f n=f i
 |0,h,_=>by omega
 |n+1,h,h0=>by
  simp only[au];by_cases e:n=i
  ·subst e;rw[tx fun k hk=>h0 k (by omega) (by omega)];omega
  ·rw[qex (i:=i) (by omega) fun k hk hne=>h0 k (by omega) hne,h0 n (by omega) e];omega
theorem qcq{a b x y:Int}(hx: -a≤x∧x≤a)(hy: -b≤y∧y≤b): -(a*b)≤x*y∧x*y≤a*b:=by
 have ha:0≤a:=by omega
 have hb:0≤b:=by omega
 have h1:x.natAbs≤a.toNat:=by omega
 have h2:y.natAbs≤b.toNat:=by omega
 have h3:(x*y).natAbs≤a.toNat*b.toNat:=by rw[Int.natAbs_mul];exact Nat.mul_le_mul h1 h2
 have h4:((a.toNat*b.toNat:Nat):Int)=a*b:=by rw[Int.natCast_mul,Int.toNat_of_nonneg ha,Int.toNat_of_nonneg hb]
 omega
end Go.M
namespace Go.M
open Go.K
def me{α:Type}(q:α→Bool):List α→Option Nat
 |[]=>none
 |a::l=>bif q a then some 0 else(me q l).map (·+1)
def jwb{α:Type}(q:α→Bool)(l:List α):Int:=match me q l with|some i=>(i:Int)|none=> -1
theorem qgc{α:Type}{q:α→Bool}(d:α):∀{l:List α} {i:Nat},me q l=some i→i<l.length∧q (l.getD i d)=true∧∀j,j<i→q (l.getD j d)=false
 |[],i,h=>by cases h
 |a::l,i,h=>by
  unfold me at h;cases hq:q a with
  |true=>
   rw[hq]at h;cases h;exact⟨by simp,hq,fun j hj=>by omega⟩
  |false=>
   rw[hq]at h;cases hf:me q l with
   |none=>rw[hf]at h;cases h
   |some k=>
    rw[hf]at h;cases h;obtain⟨h1,h2,h3⟩:=qgc d hf;refine⟨by simp;omega,h2,fun j hj=> ?_⟩;have hj' :j<k+1:=hj;cases j with
    |zero=>exact hq
    |succ j=>exact h3 j (by omega)
theorem qtd{α:Type}{q:α→Bool}:∀{l:List α},me q l=none→∀x∈l,q x=false
 |[],_,x,hx=>by simp at hx
 |a::l,h,x,hx=>by
  unfold me at h;cases hq:q a with
  |true=>rw[hq]at h;cases h
  |false=>
   rw[hq]at h;cases hf:me q l with
   |some k=>rw[hf]at h;cases h
   |none=>
    rcases List.mem_cons.1 hx with rfl|hx
    ·exact hq
    ·exact qtd hf x hx
theorem q71{α:Type}(q:α→Bool):∀l:List α,(me q l).isSome=l.any q
 |[]=>rfl
 |a::l=>by
  unfold me;rw[List.any_cons,←q71 q l];cases q a with
  |true=>rfl
  |false=>cases me q l<;>rfl
theorem qnp{α:Type}(q:α→Bool)(l:List α):decide ((0:Int)≤jwb q l)=l.any q:=by
 rw[←q71];unfold jwb;cases me q l with
 |none=>rfl
 |some i=>simp
def jfh{Rr:Type}(g:Nat→Rr):Option Nat→Unit⊕Rr
 |some i=> .inr (g i)
 |none=> .inl ()
theorem ya{α Rr:Type}{step:Int→Option (LR Int Unit Rr)}(l:List α)(d:α)(q:α→Bool)(g:Nat→Rr)(hl:l.length≤9223372036854775806)
  (h:∀i:Nat,i<l.length→step (i:Int)=some (bif q (l.getD i d)then .ret (g i)else .next ((i+1:Nat):Int))) (hd:step (l.length:Int)=some (.done ())):
  bt step 0=some (jfh g (me q l)):=by
 cases hf:me q l with
 |none=>
  refine qns (fun i:Nat=>(i:Int)) l.length (by unfold many;omega) (.inl ()) (fun i hi=> ?_) hd;rw[h i hi,qtd hf _ (ba d hi)];rfl
 |some k=>
  obtain⟨h1,h2,h3⟩:=qgc d hf;refine q8v (fun i:Nat=>(i:Int)) k (by unfold many;omega) (.ret (g k)) (.inr (g k)) rfl (fun i hi=> ?_) ?_
  ·rw[h i (by omega),h3 i hi];rfl
  ·rw[h k h1,h2];rfl
theorem qv0{α Rr:Type}{step:Int→Option (LR Int Unit Rr)}(l:List α)(d:α)(q:α→Bool)(c:Rr)(hl:l.length≤9223372036854775806)
  (h:∀i:Nat,i<l.length→step (i:Int)=some (bif q (l.getD i d)then .ret c else .next ((i+1:Nat):Int))) (hd:step (l.length:Int)=some (.done ())):
  bt step 0=some (bif l.any q then .inr c else .inl ()):=by
 rw[ya l d q (fun _=>c) hl h hd,←q71];cases me q l<;>rfl
theorem qnq{α:Type}(q:α→Bool)(l:List α):lk (jfh (fun i=>(i:Int)) (me q l)) (fun _=>some (-1:Int)) (fun r=>some r)=some (jwb q l):=by
 unfold jwb;cases me q l<;>rfl
end Go.M
namespace Go.K
open Go.M Go.RowKit
def j5l:Nat→Nat→List Bool
 |0,_=>[]
 |k+1,n=>bif Nat.ble n 1 then []else Nat.beq (n % 2) 1::j5l k (n/2)
def jc(f:Func)(p:Nat):Code:=jmd (qe1 f) (j5l 80 p)
def lc(id:Nat)(f:Func)(p:Nat):Code:= .block id (.loop (jc f p))
section
variable {P : Program} {tt : TT} {Rf : Type}
structure CtxM (P : Program) (X : Ctx Rf) : Prop where
 ok : CtxOK P X
 mix : P.follows .mixedOrders = true
theorem m0:jay P []:=trivial
theorem mC{f:FuncId}{M:Mdl}{l:List (FuncId×Mdl)}(h:MdlOK P f M)(t:jay P l):jay P ((f,M)::l):=⟨h,t⟩
theorem lw{N:Nat}{wr dt:Bool}{kp:List Bool}{l:List (FuncId×Mdl)}{Λ:Nat→Option (Summ Rf)}{res:TS→Option Rf}(hF:c9 P tt)(hm:P.follows .mixedOrders=true)(h:jay P l):CtxM P ⟨N,tt,wr,dt,kp,j8 l,Λ,res⟩:=⟨⟨hF,j2l h.all⟩,hm⟩
theorem s0{X:Ctx Rf}:qpw P X []:=trivial
theorem sC{X:Ctx Rf}{i:Nat}{c:Code}{l:List (Nat×Code)}(h:ao P X i c)(t:qpw P X l):qpw P X ((i,c)::l):=⟨h,t⟩
theorem lp{X:Ctx Rf}{n id:Nat}{f:Func}{p:Nat}{shI shE:Shp}{C S CE E:Type}{un:shI.den→C×S}{mkE:CE→E→shE.den}{pE:C→CE}
  {stepK:{R:Type}→C→S→(S→Option R)→(E→Option R)→(Rf→Option R)→Option R}
  (hΛ:X.Λ n=some (am Rf X.N X.kp shI un shE mkE pE stepK)) (hX:CtxM P X) (ann:Ann) {l:List (Nat×Code)} (hl:qpw P X l) (mk:C→S→shI.den) (unE:shE.den→CE×E)
  (hs:po (jc f p) ann=l:=by kernel_rfl) (hmk:∀x,mk (un x).1 (un x).2=x:=by intro _;kernel_rfl) (hmkE:∀y,mkE (unE y).1 (unE y).2=y:=by intro _;kernel_rfl)
  (hpar:∀(R:Type) (K:C→S→Option R) (D:CE→E→Option R) (T:Rf→Option R) (c:C) (a:S),
   den X (jc f p) ann (shI.enc (mk c a)) (fun s' =>match shI.dec X.N X.kp s' with|some x=>K (un x).1 (un x).2|none=>none)
    (fun id' s' =>bif Nat.beq id' id then(match shE.dec X.N X.kp s' with|some y=>D (unE y).1 (unE y).2|none=>none)else none) T=stepK c a (K c) (D (pE c)) T:=by intro R K D T c a;kernel_rfl):
  ao P X n (lc id f p):=
 jwl hX.ok hX.mix (qpw.all hs hl) hΛ hmk hmkE hpar
theorem jn{X:Ctx Rf}{n:Nat}{f:Func}{p:Nat}{shI shE:Shp}{A CE E:Type}{un:shI.den→A}{mkE:CE→E→shE.den}{pE:A→CE}
  {stepK:{R:Type}→A→(E→Option R)→(Rf→Option R)→Option R}
  (hΛ:X.Λ n=some (qd8 Rf X.N X.kp shI un shE mkE pE stepK)) (hX:CtxM P X) (ann:Ann) {l:List (Nat×Code)} (hl:qpw P X l) (mk:A→shI.den) (unE:shE.den→CE×E)
  (hs:po (jc f p) ann=l:=by kernel_rfl) (hmk:∀x,mk (un x)=x:=by intro _;kernel_rfl) (hmkE:∀y,mkE (unE y).1 (unE y).2=y:=by intro _;kernel_rfl)
  (hpar:∀(R:Type) (D:CE→E→Option R) (T:Rf→Option R) (a:A),
   den X (jc f p) ann (shI.enc (mk a)) (fun s' =>match shE.dec X.N X.kp s' with|some y=>D (unE y).1 (unE y).2|none=>none) (fun _ _=>none) T=stepK a (D (pE a)) T:=by intro R D T c;kernel_rfl):
  ao P X n (jc f p):=
 jwe hX.ok hX.mix (qpw.all hs hl) hΛ hmk hmkE hpar
theorem nj{f:FuncId}{fn:Func}(hf:P.funcs[f]? =some fn){B:Type}{X:Ctx B}{rs:List ResultVar}{l:ShL}{objs:List Hs}{sh:Shp}{un:sh.den→B}{mk:B→sh.den}{m:l.den×kd objs→Option B}
  (hres:X.res=cm X.N X.tt X.kp rs sh un) (hX:CtxM P X) (ann:Ann) {sl:List (Nat×Code)} (hsl:qpw P X sl)
  (hname:(fn.name== "runtime.NumGoroutine")=false:=by kernel_rfl) (hb:fn.body=some (qe1 fn):=by kernel_rfl) (hN:fn.ntmps=X.N:=by kernel_rfl)
  (hrs:fn.results=rs.toArray:=by kernel_rfl) (hmk:∀x,mk (un x)=x:=by intro _;kernel_rfl) (hs:po (qe1 fn) ann=sl:=by kernel_rfl) (hl:Nat.ble l.len X.N=true:=by kernel_rfl) (hfr:sh.frB=true:=by kernel_rfl)
  (hden:∀a,den X (qe1 fn) ann ⟨qks 0 (l.enc a.1),da objs a.2⟩ X.res (fun _ _=>none) some=m a:=by intro a;kernel_rfl):MdlOK P f (ay l objs X.kp rs.length sh mk m):=
 j5e hf hname hb hN hrs hmk hres hX.ok hX.mix (qpw.all hs hsl) (Nat.le_of_ble_eq_true hl) hfr hden
theorem j2g{f:FuncId}{fn:Func}(hf:P.funcs[f]? =some fn){B1 B2:Type}{X:Ctx (B1⊕B2)}{rs:List ResultVar}{l:ShL}{objs:List Hs}{sh1 sh2:Shp}{un1:sh1.den→B1}{un2:sh2.den→B2}{mk1:B1→sh1.den}{mk2:B2→sh2.den}{m:l.den×kd objs→Option (B1⊕B2)}
  (hres:X.res=jds X.N X.tt X.kp rs sh1 sh2 un1 un2) (hX:CtxM P X) (ann:Ann) {sl:List (Nat×Code)} (hsl:qpw P X sl)
  (hname:(fn.name== "runtime.NumGoroutine")=false:=by kernel_rfl) (hb:fn.body=some (qe1 fn):=by kernel_rfl) (hN:fn.ntmps=X.N:=by kernel_rfl)
  (hrs:fn.results=rs.toArray:=by kernel_rfl) (hmk1:∀x,mk1 (un1 x)=x:=by intro _;kernel_rfl) (hmk2:∀x,mk2 (un2 x)=x:=by intro _;kernel_rfl) (hs:po (qe1 fn) ann=sl:=by kernel_rfl) (hl:Nat.ble l.len X.N=true:=by kernel_rfl) (hfr1:sh1.frB=true:=by kernel_rfl) (hfr2:sh2.frB=true:=by kernel_rfl)
  (hden:∀a,den X (qe1 fn) ann ⟨qks 0 (l.enc a.1),da objs a.2⟩ X.res (fun _ _=>none) some=m a:=by intro a;kernel_rfl):MdlOK P f (q8z l objs X.kp rs.length sh1 sh2 mk1 mk2 m):=
 j2i hf hname hb hN hrs hmk1 hmk2 hres hX.ok hX.mix (qpw.all hs hsl) (Nat.le_of_ble_eq_true hl) hfr1 hfr2 hden
end
end Go.K
namespace Go.K
open Go.M
theorem rs:
  (∀{α:Type} {i:Int} {n:Nat} {m:Option α},0≤i→i<(n:Int)→ak (ix i n) m=m)∧
  (∀{α:Type} {e:Int} {m:Option α},-9223372036854775808≤e→e≤9223372036854775807→ak (di .i64 e) m=m)∧
  (∀{α:Type} {n b:Nat} {m:Option α},n≤9223372036854775807→n*b≤140737488355328→ak (room n b) m=m)∧
  (∀{α:Type} {l h:Int} {n:Nat} {m:Option α},0≤l→l≤h→h≤(n:Int)→ak (cut l h n) m=m)∧
  (∀{α:Type} {l c:Int} {b:Nat} {m:Option α},0≤l→l≤c→(b:Int)*c≤281474976710656→c≤9223372036854775807→ak (qv2 l c b) m=m)∧
  (∀{α:Type} {a b:Int} {m:Option α},a≠b→ak (!decide (a=b)) m=m)∧
  (∀{α:Type} {a b:Int} {x y:α},a<b→(bif decide (a<b)then x else y)=x)∧
  (∀{α:Type} {a b:Int} {x y:α},b≤a→(bif decide (a<b)then x else y)=y)∧
  (∀{α:Type} {a b:Int} {x y:α},a≤b→(bif decide (a≤b)then x else y)=x)∧
  (∀{α:Type} {a b:Int} {x y:α},b<a→(bif decide (a≤b)then x else y)=y)∧
  (∀{α:Type} {a b:Int} {x y:α},a=b→(bif decide (a=b)then x else y)=x)∧
  (∀{α:Type} {a b:Int} {x y:α},a≠b→(bif decide (a=b)then x else y)=y)∧
  (∀{α:Type} {a b:Int} {x y:α},a≠b→(bif !decide (a=b)then x else y)=x)∧
  (∀{α:Type} {a b:Int} {x y:α},a=b→(bif !decide (a=b)then x else y)=y)∧
  (∀{α:Type} {c:Bool} {x y:α},(bif !c then x else y)=(bif c then y else x))∧
  (∀{α:Type} {x y:α},(bif true then x else y)=x)∧(∀{α:Type} {x y:α},(bif false then x else y)=y)∧
  (∀{α β:Type} (a:α) (k:α→Option β),bnd (some a) k=k a)∧
  (∀{E R β:Type} (e:E) (k1:E→β) (k2:R→β),lk (.inl e) k1 k2=k1 e)∧(∀{E R β:Type} (e:R) (k1:E→β) (k2:R→β),lk (.inr e) k1 k2=k2 e)∧
  (∀n:Nat,Int.toNat (n:Int)=n)∧(∀h:Decidable True,@decide True h=true):=
 ⟨jew,jev,qw7,jmw,j0c,jex,q7a,qta,jep,q6m,jko,jeq,jrv,qmr,qw1,t7,qgg,bi,zk,j2y,Int.toNat_natCast,fun h=> @decide_true h⟩
end Go.K
namespace Go.K
open Go.M Go.RowKit
theorem jaw(T:TG):vw [] T=none:=by
 cases T<;>rfl
theorem jpz{P:Program}{f:FuncId}{fn:Func}(hf:P.funcs[f]? =some fn)(hname:(fn.name== "runtime.NumGoroutine")=false)(hb:fn.body.isNone=false){l:ShL}{m:l.den×kd []→Option ByteArray}
  (h:∀a b,m a=some b→∀(G:Gr) (vs:List Value),(∀g c,jq7 g=some c→∃e f,G.w.heap[g]? =some (.cells c e f))→fj G (l.enc a.1) vs→Calls P f vs.toArray G.w fun e w' =>e= .returned (.string b)∧Below G.w.heap.size G.w w'):
  MdlOK P f (ay l [] [] 1 ⟨[(0, .d true .str)],[]⟩ (B:=ByteArray) (fun b=>((b,()),())) m):=by
 refine⟨⟨fn,hf,hname,hb⟩,fun a b hm U w σ hHR vs hvs=> ?_,qy6,fun a b _=>qtg (by rfl) a b,fun _ _ _ _ h=>h⟩;have hσ:∀T,σ T=none:=fun T=>by
  cases hq:σ T with
  |none=>rfl
  |some p=>
   obtain⟨v,hv⟩:=hHR.dom T p hq;have hv:vw [] T=some v:=hv;rw[jaw]at hv;cases hv
 refine(h a b hm (gr U (vw []) w σ) vs (fun g c hc=>(hHR.tb g c hc).1) hvs).mono ?_;rintro e w' ⟨rfl,hB⟩;refine⟨_,σ,rfl,⟨hHR.inj,hHR.dom,fun T v hv=> ?_,fun T g o hT=> ?_,hB.os,hB.tape,hB.output,hB.size,fun k hk _=>hB.block k hk,fun _ _=>rfl,fun t g o _ ht=> ?_,hHR.ulow,hHR.tb0⟩,rfl⟩
 ·have hv:vw [] T=some v:=hv;rw[jaw]at hv;cases hv
 ·rw[hσ]at hT;cases hT
 ·rw[hσ]at ht;cases ht
end Go.K
namespace Go.K
open Go.M Go.RowKit
end Go.K
namespace Go.K
open Go.M Go.RowKit
structure Same (w w' : World) : Prop where
 size : w.heap.size ≤ w'.heap.size
 cells : ∀ (b : Nat) cur e z, w.heap[b]? = some (.cells cur e z) → w'.heap[b]? = some (.cells cur e z)
 map : ∀ (b : Nat) es c, w.heap[b]? = some (.map es c) → w'.heap[b]? = some (.map es c)
theorem Same.cell{w w' :World}(h:Same w w'){p:Addr}{u:Value}(hc:w.cell? p=some u):w'.cell? p=some u:=by
 unfold World.cell? at hc⊢;split at hc
 ·rename_i cur e z hq;rw[h.cells _ _ _ _ hq];exact hc
 ·cases hc
mutual
theorem Ty.C_same{w w' :World}(h:Same w w'){Y:Nat→Prop}:∀(t:Ty) (x:t.den) (f:Nat) (v:Value),Ty.C w Y t x f v→Ty.C w' Y t x f v
 | .int _,_,_,_,hv=>hv
 | .bool,_,_,_,hv=>hv
 | .str,_,_,_,hv=>hv
 | .slice t,xs,_,v,hv=>by
  obtain⟨a,c,hv,hn,hc,hr⟩:=hv;refine⟨a,c,hv,hn,hc,fun h0=> ?_⟩;obtain⟨b,o,ha,hb,hY,hcell⟩:=hr h0;refine⟨b,o,ha,Nat.lt_of_lt_of_le hb h.size,hY,fun i f hi hf=> ?_⟩;obtain⟨u,hu,h1,hC⟩:=hcell i f hi hf;exact⟨u,h.cell hu,h1,Ty.C_same h t _ f u hC⟩
 | .struct l,x,f,v,hv=>TyL.C_same h l x f v hv
 | .tree l m,x,f,v,hv=>TrC.imp (fun b hb hY=>⟨Nat.lt_of_lt_of_le hb h.size,hY⟩) (fun b o u _ _ hu=>h.cell hu) (fun a f v hv=>by
   split at hv<;>rename_i e
   ·rw[if_pos e];exact TyL.C_same h l _ f v hv
   ·rw[if_neg e];exact TyL.C_same h m _ _ v hv) x f v hv
theorem TyL.C_same{w w' :World}(h:Same w w'){Y:Nat→Prop}:∀(l:TyL) (x:l.den) (f:Nat) (v:Value),TyL.C w Y l x f v→TyL.C w' Y l x f v
 | .nil,_,_,_,hv=>hv
 | .cons t l,x,f,v,hv=>by
  unfold TyL.C at hv⊢;split
  ·rename_i hlt;rw[if_pos hlt]at hv;exact Ty.C_same h t _ f v hv
  ·rename_i hge;rw[if_neg hge]at hv;exact TyL.C_same h l _ _ v hv
end
theorem qvk.same{w w' :World}(h:Same w w'){Y:Nat→Prop}{kt vt:Ty}{es:List (kt.den×vt.den)}{v:Value}(hr:qvk w Y kt vt es v):qvk w' Y kt vt es v:=by
 rcases hr with hr|⟨g,hs,c,hv,hg,hY,hh,hst,hl,hc⟩
 ·exact .inl hr
 ·refine .inr ⟨g,hs,c,hv,Nat.lt_of_lt_of_le hg h.size,hY,h.map _ _ _ hh,hst,hl,fun i e p he hp=> ?_⟩;obtain⟨h1,h2⟩:=hc i e p he hp;exact⟨h1,Ty.C_same h vt _ 0 _ h2⟩
theorem SlR.same{w w' :World}(h:Same w w'){σ:Pl}{T:TG}{sz off n:Nat}{v:Value}(hs:SlR w σ T sz off n v):SlR w' σ T sz off n v:=by
 rcases hs with hs|⟨g,o,c,cur,e,hσ,hv,hn,hc,hh,hz⟩
 ·exact .inl hs
 ·exact .inr ⟨g,o,c,cur,e,hσ,hv,hn,hc,h.cells _ _ _ _ hh,hz⟩
mutual
theorem VR.same{w w' :World}(h:Same w w'){X U:Nat→Prop}{σ I:Pl}:∀(A:TV) (v:Value),VR ⟨w,X,U,σ,I⟩ A v→VR ⟨w',X,U,σ,I⟩ A v
 | .any,v,hv=>trivial
 | .int _ _,v,hv=>hv
 | .bool _,v,hv=>hv
 | .val _,v,hv=>hv
 | .e0,v,hv=>hv
 | .sl fr t xs,v,hv=>Ty.C_same h (.slice t) xs 0 v hv
 | .rptr fr t xs i f,v,hv=>by
  obtain⟨b,o,hv,hb,hY,hcell⟩:=hv;refine⟨b,o,hv,Nat.lt_of_lt_of_le hb h.size,hY,fun i f hi hf=> ?_⟩;obtain⟨u,hu,h1,hC⟩:=hcell i f hi hf;exact⟨u,h.cell hu,h1,Ty.C_same h t _ f u hC⟩
 | .own T,v,hv=>by
  obtain⟨n,sz,hI,hs⟩:=hv;exact⟨n,sz,hI,SlR.same h hs⟩
 | .ownS T off m,v,hv=>by
  obtain⟨n,sz,hI,hle,hs⟩:=hv;exact⟨n,sz,hI,hle,SlR.same h hs⟩
 | .ptr T i f,v,hv=>hv
 | .mp T,v,hv=>hv
 | .dm fr kt vt es,v,hv=>qvk.same h hv
 | .fn f cs,v,hv=>by
  obtain⟨l,hl,hc⟩:=hv;exact⟨l,hl,fj.same h cs l hc⟩
 | .agg cs,v,hv=>by
  obtain⟨l,hl,hc,h1⟩:=hv;exact⟨l,hl,fj.same h cs l hc,h1⟩
 | .tup cs,v,hv=>by
  obtain⟨l,hl,hc⟩:=hv;exact⟨l,hl,fj.same h cs l hc⟩
 | .cond c a,v,hv=>by
  unfold VR at hv⊢;split
  ·rename_i hc;rw[if_pos hc]at hv;exact VR.same h a v hv
  ·rename_i hc;rw[if_neg hc]at hv;exact hv
 | .nl _ a,v,hv=>⟨VR.same h a v hv.1,hv.2⟩
theorem fj.same{w w' :World}(h:Same w w'){X U:Nat→Prop}{σ I:Pl}:∀(cs:List TV) (l:List Value),fj ⟨w,X,U,σ,I⟩ cs l→fj ⟨w',X,U,σ,I⟩ cs l
 |[],l,hl=>hl
 |A::cs,l,hl=>by
  obtain⟨u,r,rfl,h1,h2⟩:=hl;exact⟨u,r,rfl,VR.same h A u h1,fj.same h cs r h2⟩
end
section
variable {U : Nat → Prop} {w0 : World} {σ0 : Pl} {K : Nat → Bool} {N : Nat}
theorem OR.same{w w' :World}(h:Same w w'){X U:Nat→Prop}{σ I:Pl}{p:Option (Nat×Nat)}{v:Vw}(ho:OR ⟨w,X,U,σ,I⟩ p v):OR ⟨w',X,U,σ,I⟩ p v:=by
 cases p with
 |none=>exact ho
 |some p=>
  obtain⟨g,o⟩:=p;rcases ho with⟨hp0,cur,c,hh,hsz,hle,hcell⟩|⟨h1,h2,es,k,hh,hm⟩
  ·refine .inl ⟨hp0,cur,c,h.cells _ _ _ _ hh,hsz,hle,fun i f hi hf=> ?_⟩;obtain⟨u,hu,h1,hV⟩:=hcell i f hi hf;exact⟨u,hu,h1,VR.same h _ u hV⟩
  ·exact .inr ⟨h1,h2,es,k,h.map _ _ _ hh,hm.sb (θ:=fun _=> .id) (fun i f=>(TV.sb_id _).symm) fun i u hu=>VR.same h _ u hu⟩
theorem HR.same{V:TG→Option Vw}{w w' :World}{σ:Pl}(h:HR U w0 σ0 K V w σ)(hs:Same w w')(h1:w'.os=w.os)(h2:w'.tape=w.tape)(h3:w'.output=w.output)(hb:∀b,b<w0.heap.size→w'.heap[b]? =w.heap[b]?):HR U w0 σ0 K V w' σ:=
 ⟨h.inj,h.dom,fun T v hv=>OR.same hs (h.obj T v hv),h.own,h1.trans h.os,h2.trans h.tape,h3.trans h.output,Nat.le_trans h.size hs.size,fun b hb0 hn=>(hb b hb0).trans (h.blk b hb0 hn),h.keep,fun t g o ht hg cur e hc=>by
  obtain⟨cur',a1,a2⟩:=h.ksz t g o ht hg cur e hc;exact⟨cur',hs.cells _ _ _ _ a1,a2⟩,h.ulow,h.tb0⟩
theorem ARel.same{S:Nat→TV}{V:TG→Option Vw}{a:Act}{w w' :World}{σ:Pl}(h:ARel U w0 σ0 K N S V a w σ)(hs:Same w w')(h1:w'.os=w.os)(h2:w'.tape=w.tape)(h3:w'.output=w.output)(hb:∀b,b<w0.heap.size→w'.heap[b]? =w.heap[b]?):ARel U w0 σ0 K N S V a w' σ:=
 ⟨h.defers,h.len,fun t ht=>by obtain⟨v,hv,hV⟩:=h.slot t ht;exact⟨v,hv,VR.same hs _ v hV⟩,h.hr.same hs h1 h2 h3 hb⟩
theorem HR.rebase{V:TG→Option Vw}{w:World}{σ:Pl}(h:HR U w0 σ0 K V w σ):HR U w σ K V w σ:=
 ⟨h.inj,h.dom,h.obj,fun T g o hT=>⟨(h.own T g o hT).1, .inr ⟨T,o,hT⟩⟩,rfl,rfl,rfl,Nat.le_refl _,fun _ _ _=>rfl,fun _ _=>rfl,fun _ _ _ _ _ cur _ hc=>⟨cur,hc,rfl⟩,fun b hb=>Nat.lt_of_lt_of_le (h.ulow b hb) h.size,h.tb⟩
theorem HR.comp{V V' :TG→Option Vw}{w w' :World}{σ σ' :Pl}(h:HR U w0 σ0 K V w σ)(h' :HR U w σ K V' w' σ'):HR U w0 σ0 K V' w' σ' :=by
 refine⟨h'.inj,h'.dom,h'.obj,fun T g o hT=>⟨(h'.own T g o hT).1,?_⟩,h'.os.trans h.os,h'.tape.trans h.tape,h'.output.trans h.output,Nat.le_trans h.size h'.size,fun b hb hn=> ?_,fun t ht=>(h'.keep t ht).trans (h.keep t ht),fun t g o ht hg cur e hc=> ?_,h.ulow,h.tb0⟩
 ·rcases(h'.own T g o hT).2 with h1|⟨T',o',h1⟩
  ·exact .inl (Nat.le_trans h.size h1)
  ·exact(h.own T' g o' h1).2
 ·refine(h'.blk b (Nat.lt_of_lt_of_le hb h.size) fun T o hT=> ?_).trans (h.blk b hb hn);rcases(h.own T b o hT).2 with h1|⟨T',o',h1⟩
  ·omega
  ·exact hn T' o' h1
 ·obtain⟨cur1,a1,a2⟩:=h.ksz t g o ht hg cur e hc;obtain⟨cur2,b1,b2⟩:=h'.ksz t g o ht (by rw[h.keep t ht];exact hg) cur1 e a1;exact⟨cur2,b1,b2.trans a2⟩
theorem ARel.rebase{S:Nat→TV}{V:TG→Option Vw}{a:Act}{w:World}{σ:Pl}(h:ARel U w0 σ0 K N S V a w σ):ARel U w σ K N S V a w σ:=⟨h.defers,h.len,h.slot,h.hr.rebase⟩
theorem ARel.comp{S' :Nat→TV}{V V' :TG→Option Vw}{a' :Act}{w w' :World}{σ σ' :Pl}(h:HR U w0 σ0 K V w σ)(h' :ARel U w σ K N S' V' a' w' σ'):ARel U w0 σ0 K N S' V' a' w' σ' :=⟨h'.defers,h'.len,h'.slot,h.comp h'.hr⟩
theorem HR.lowY{V V' :TG→Option Vw}{w w' :World}{σ σ' :Pl}(h' :HR U w σ K V' w' σ')(h:HR U w σ K V w σ)(fr:Bool):Low w (YY (cn σ) U fr) w' (YY (cn σ') U fr):=by
 refine⟨h'.size,fun b hb hY hY' =>hY ?_,fun b hb hY=>h'.blk b hb fun T o hT=>hY (.inl ⟨T,o,hT⟩)⟩;rcases hY' with⟨T,o,hT⟩|e
 ·rcases(h'.own T b o hT).2 with h1|⟨T',o',h1⟩
  ·omega
  ·exact .inl ⟨T',o',h1⟩
 ·exact .inr e
theorem HR.kind{V:TG→Option Vw}{w:World}{σ:Pl}(h:HR U w0 σ0 K V w σ){T:TG}{b o:Nat}(hT:σ T=some (b,o)):(∃cur e,w.heap[b]? =some (.cells cur e (0,0)))∨∃es c,w.heap[b]? =some (.map es c):=by
 obtain⟨v,hv⟩:=h.dom T _ hT;have:=h.obj T v hv;rw[hT]at this;rcases this with⟨_,cur,c,hh,_⟩|⟨_,_,es,k,hh,_⟩
 ·exact .inl ⟨_,_,hh⟩
 ·exact .inr ⟨_,_,hh⟩
end
def qoz{S E Rf:Type}(B:S→E→Option (S⊕Rf)):List E→S→Option (S⊕Rf)
 |[],s=>some (.inl s)
 |e::l,s=>match B s e with|some (.inl s')=>qoz B l s' |some (.inr r)=>some (.inr r)|none=>none
theorem q1j{S E Rf:Type}(B:S→E→Option (S⊕Rf)):∀(l l' :List E) (s:S),qoz B (l++l') s=match qoz B l s with|some (.inl s')=>qoz B l' s' |r=>r
 |[],l',s=>rfl
 |e::l,l',s=>by
  simp only[List.cons_append,qoz];cases B s e with
  |none=>rfl
  |some y=>
   cases y with
   |inl s' =>exact q1j B l l' s'
   |inr r=>rfl
noncomputable def q50{S E Rf R:Type}(F:List E→Option (S⊕Rf))(es:List E)(kn:S→Option R)(kr:Rf→Option R):Option R:=
 open Classical in if h:∃r,∀l:List E,l.Perm es→∃y,F l=some y∧lk y kn kr=some r then some h.choose else none
theorem q2q{S E Rf R:Type}{F:List E→Option (S⊕Rf)}{es:List E}{kn:S→Option R}{kr:Rf→Option R}{r:R}(h:q50 F es kn kr=some r):∀l:List E,l.Perm es→∃y,F l=some y∧lk y kn kr=some r:=by
 unfold q50 at h;split at h
 ·rename_i h1;cases h;exact h1.choose_spec
 ·cases h
theorem jgs{S E Rf R:Type}{F:List E→Option (S⊕Rf)}{es:List E}{kn:S→Option R}{kr:Rf→Option R}{r:R}(h:∀l:List E,l.Perm es→∃y,F l=some y∧lk y kn kr=some r):q50 F es kn kr=some r:=by
 have h1:∃r,∀l:List E,l.Perm es→∃y,F l=some y∧lk y kn kr=some r:=⟨r,h⟩;have h2:q50 F es kn kr=some h1.choose:=by unfold q50;rw[dif_pos h1]
 obtain⟨y,a1,a2⟩:=h es (List.Perm.refl _);obtain⟨y',b1,b2⟩:=h1.choose_spec es (List.Perm.refl _);rw[h2];have:y=y' :=by rw[a1]at b1;exact Option.some.inj b1
 subst this;rw[a2]at b2;exact b2.symm
def jb8{E:Type}(hs:Array MapEntry)(es:List E)(seen:Array Nat):List E:=((hs.toList.zip es).filter fun p=> !seen.contains p.1.born).map (·.2)
theorem jl4{E:Type}{hs:Array MapEntry}{es:List E}(hl:hs.size=es.length):jb8 hs es #[]=es:=by
 unfold jb8;rw[List.filter_eq_self.2 (fun p _=>by simp)];rw[List.map_snd_zip (by have:hs.toList.length=hs.size:=Array.length_toList;omega)]
theorem jc0{E:Type}(seen:Array Nat)(e:MapEntry)(p:E):∀(Z:List (MapEntry×E)),(Z.map (·.1.born)).Nodup→(e,p)∈Z→seen.contains e.born=false→
  (Z.filter fun z=> !seen.contains z.1.born).Perm ((e,p)::Z.filter fun z=> !(seen.push e.born).contains z.1.born)
 |[],_,h,_=>by simp at h
 |z::Z,hn,h,hs=>by
  simp only[List.map_cons,List.nodup_cons]at hn;rcases List.mem_cons.1 h with rfl|h
  ·have e1:(Z.filter fun z=> !seen.contains z.1.born)=Z.filter fun z=> !(seen.push e.born).contains z.1.born:=by
    refine List.filter_congr fun z hz=> ?_
    have:z.1.born≠e.born:=fun he=>hn.1 (List.mem_map.2 ⟨z,hz,he⟩)
    rw[contains_push,beq_false_of_ne this,Bool.or_false]
   rw[List.filter_cons_of_pos (by simpa using hs),List.filter_cons_of_neg (by rw[contains_push];simp),e1]
  ·have hne:z.1.born≠e.born:=fun he=>hn.1 (List.mem_map.2 ⟨(e,p),h,he.symm⟩)
   have ih:=jc0 seen e p Z hn.2 h hs;have hc:(seen.push e.born).contains z.1.born=seen.contains z.1.born:=by rw[contains_push,beq_false_of_ne hne,Bool.or_false]
   cases hz:seen.contains z.1.born with
   |true=>
    rw[List.filter_cons_of_neg (by simpa using hz),List.filter_cons_of_neg (by rw[hc];simpa using hz)];exact ih
   |false=>
    rw[List.filter_cons_of_pos (by simpa using hz),List.filter_cons_of_pos (by rw[hc];simpa using hz)];exact(ih.cons z).trans (List.Perm.swap _ _ _)
theorem jqm{E:Type}{hs:Array MapEntry}{es:List E}{c:Nat}(hst:Stp hs c)(hl:hs.size=es.length){seen:Array Nat}{e:MapEntry}(he:e∈(leftOf hs seen).toList):
  ∃(i:Nat) (p:E),hs[i]? =some e∧es[i]? =some p∧(jb8 hs es seen).Perm (p::jb8 hs es (seen.push e.born)):=by
 obtain⟨h1,h2⟩:=mem_left he;obtain⟨i,hi⟩:=List.getElem?_of_mem h1;have hi' :hs[i]? =some e:=by simpa using hi
 have hlt:i<es.length:=by
  have:=(Array.getElem?_eq_some_iff.1 hi').1;omega
 refine⟨i,es[i],hi',List.getElem?_eq_getElem hlt,?_⟩;have hm:(e,es[i])∈hs.toList.zip es:=List.mem_of_getElem? (i:=i) (by
  rw[List.getElem?_zip_eq_some];exact⟨hi,List.getElem?_eq_getElem hlt⟩)
 have hz:((hs.toList.zip es).map (·.1.born)).Nodup:=by
  have:(hs.toList.zip es).map (·.1.born)=hs.toList.map (·.born):=by
   rw[show(fun z:MapEntry×E=>z.1.born)=(fun x:MapEntry=>x.born)∘Prod.fst from rfl,←List.map_map,List.map_fst_zip (by have:hs.toList.length=hs.size:=Array.length_toList;omega)]
  rw[this];exact hst.2
 exact(jc0 seen e es[i] _ hz hm h2).map _
theorem jql{E:Type}{hs:Array MapEntry}{es:List E}{seen:Array Nat}(h:(leftOf hs seen).size=0):jb8 hs es seen=[]:=by
 unfold jb8;rw[List.filter_eq_nil_iff.2,List.map_nil];intro p hp;have:=all_seen hs seen h p.1 (List.of_mem_zip (show(p.1,p.2)∈hs.toList.zip es from hp)).1;rw[this]
 decide
end Go.K
namespace Go.K
open Go.M Go.RowKit
structure RngC where
 i1 : Nat
 pre : List Oper
 o0 : Oper
 id : Nat
 i2 : Nat
 o1 : Oper
 o2 : Oper
 b : Tmp
 id3 : Nat
 i3 : Nat
 o3 : Oper
 rest : List Oper
 body : Code
def RngC.head(p:RngC):Code:= .seq (.region p.i2 #[p.o1,p.o2] false) (.seq (.cond (.tmp p.b) .skip (.exit p.id)) (.block p.id3 (.seq (.region p.i3 (p.o3::p.rest).toArray false) p.body)))
def RngC.code(p:RngC):Code:= .seq (.region p.i1 (p.pre++[p.o0]).toArray false) (.block p.id (.loop p.head))
def qyx:List Oper→Oper
 |[]=>⟨none, .assign (.const undef),0, "",#[],none⟩
 |[o]=>o
 |_::l=>qyx l
def jxz:List Oper→List Oper
 |[]=>[]
 |[_]=>[]
 |o::l=>o::jxz l
def j7o:Code→RngC
 | .seq (.region i1 ops _) (.block id (.loop (.seq (.region i2 ops2 _) (.seq (.cond (.tmp b) _ _) (.block id3 (.seq (.region i3 ops3 _) body))))))=>
  ⟨i1,jxz ops.toList,qyx ops.toList,id,i2,qyx (ops2.toList.take 1),qyx ops2.toList,b,id3,i3,qyx (ops3.toList.take 1),ops3.toList.drop 1,body⟩
 |_=>⟨0,[],qyx [],0,0,qyx [],qyx [],0,0,0,qyx [],[], .skip⟩
abbrev itV(r:Nat):TV:= .val (.pointer (some ⟨r,0,none⟩))
section
variable {U : Nat → Prop} {w0 : World} {σ0 : Pl} {K : Nat → Bool} {P : Program} {Rf R : Type}
def jwz(N:Nat)(tt:TT)(wr:Bool)(kp:List Bool):Ctx Unit:=⟨N,tt,wr,false,kp,fun _=>[],fun _=>none,fun _=>none⟩
abbrev qym{C S E:Type}(stepK:{R:Type}→C→S→E→(S→Option R)→(Rf→Option R)→Option R)(c:C)(a:S)(l:List E):Option (S⊕Rf):=
 qoz (fun a e=>stepK (R:=S⊕Rf) c a e (fun a' =>some (.inl a')) (fun r=>some (.inr r))) l a
noncomputable def qge(Rf:Type)(N:Nat)(tt:TT)(wr:Bool)(kp:List Bool)(p:RngC)(shI:Shp){C S E:Type}(un:shI.den→C×S)(mk:C→S→shI.den)(esF:C→List E)(stepK:{R:Type}→C→S→E→(S→Option R)→(Rf→Option R)→Option R):Summ Rf where
 A:=C×S
 O:=Unit
 dec:=fun s=>jgu (jwz N tt wr kp) (p.pre++[p.o0]) p.pre s (fun s1=>match shI.dec N kp s1 with|some x=>some (un x)|none=>none)
 m:=fun _=>some ()
 cont:=fun x _ kn _ kr=>q50 (qym stepK x.1 x.2) (esF x.1) (fun a=>kn (shI.enc (mk x.1 a))) kr
def j3d(shI:Shp){C S:Type}(mk:C→S→shI.den)(d0 d1 d2 d3:Tmp)(fr:Bool)(kt vt:Ty)(r:Nat)(c:C)(a:S)(e:kt.den×vt.den):TS:=
 ⟨(d3, .tup [jt5 kt e.1,jau fr vt e.2])::(d2, .any)::(d1, .any)::(d0,itV r)::(shI.enc (mk c a)).S,(shI.enc (mk c a)).H⟩
def qwg(N:Nat)(kp:List Bool)(shI:Shp){C S:Type}(un:shI.den→C×S)(d0:Tmp)(K:Nat→C→S→Option R)(s' :TS):Option R:=
 match rd N s'.S d0 with
 | .val (.pointer (some ⟨r',0,none⟩))=>(match shI.dec N kp s' with|some x=>K r' (un x).1 (un x).2|none=>none)
 |_=>none
theorem jqo{X:Ctx Rf}(hX:CtxOK P X)(hK:q66 X K){all:List Oper}{k:TS→Option R}{r:R}{Q:Exit→Act→World→Prop}{tail:List Oper}(hQ:∀s' a' w' σ',c7 U w0 σ0 K X.N s' a' w' σ' →k s' =some r→wpList P all.toArray Q tail a' w'):
  ∀(l:List Oper) (s:TS) (a:Act) (w:World) (σ:Pl),c7 U w0 σ0 K X.N s a w σ→jgu X all l s k=some r→wpList P all.toArray Q (l++tail) a w:=by
 intro l
 induction l with
 |nil=>intro s a w σ hr h;exact hQ s a w σ hr h
 |cons o rest ih=>
  intro s a w σ hr h;unfold jgu juu at h;split at h
  ·rename_i hg;exact wpList_plain hg fun K' hK' =>jgf hX hK h hr fun s' a' w' σ' h' hk=>hK' _ _ (ih s' a' w' σ' h' hk)
  ·rename_i g hg;obtain⟨S1,hext,hcase⟩:=qnm hg h;have hr1:c7 U w0 σ0 K X.N ⟨S1,s.H⟩ a w σ:=c7.ext (s:=s) (s' :=⟨S1,s.H⟩) ⟨rfl,fun t=>(hext t).symm⟩ hr;refine wpList_step fun K' hK' => ?_
   rcases hcase with⟨hw,h1⟩|⟨hw,h1⟩
   ·rw[yn hr hw];simp only[if_true];exact jgf hX hK h1 hr1 fun s' a' w' σ' h' hk=>hK' _ _ (ih s' a' w' σ' h' hk)
   ·rw[yn hr hw];simp only[Bool.false_eq_true,if_false];exact hK' _ _ (ih _ _ _ σ (hr1.put o.dst (A:= .undef) (v:=undef) (by simp[VR])) h1)
def Ty.cell:Ty→Bool
 | .struct _=>false
 | .tree _ _=>false
 |_=>true
theorem jr5{G:Gr}{fr:Bool}:∀{t:Ty} (x:t.den) (v:Value),t.cell=true→Ty.C G.w (YY G.X G.U fr) t x 0 v→VR G (jau fr t x) v
 | .int _,_,_,_,h=>h
 | .bool,_,_,_,h=>h
 | .str,_,_,_,h=>h
 | .slice _,_,_,_,h=>h
 | .struct _,_,_,hc,_=>by cases hc
 | .tree _ _,_,_,hc,_=>by cases hc
def ji5(l:List Nat):List (Nat×Sh)→Bool
 |[]=>true
 |p::r=> !inL p.1 l&&ji5 l r
theorem ji6{l:List Nat}{t:Nat}(ht:t∈l):∀{sl:List (Nat×Sh)} (x:q93 sl),ji5 l sl=true→bq (qfn sl x) t= .any
 |[],_,_=>rfl
 |p::r,x,h=>by
  simp only[ji5,Bool.and_eq_true,Bool.not_eq_true']at h;simp only[qfn,oz];rw[if_neg (fun e=>by rw[e,qyq.2 ht]at h;exact absurd h.1 (by decide))];exact ji6 ht x.2 h.2
theorem c7.drop{N:Nat}{s:TS}{a:Act}{w:World}{σ:Pl}{d:Tmp}{A:TV}(h:c7 U w0 σ0 K N (s.put (some d) A) a w σ)(hd:bq s.S d= .any):c7 U w0 σ0 K N s a w σ:=by
 refine⟨h.defers,h.len,fun t ht=> ?_,h.hr⟩;obtain⟨u,hu,hV⟩:=h.slot t ht;refine⟨u,hu,?_⟩;simp only[TS.put,oz]at hV;by_cases e:d=t
 ·subst e;rw[hd];trivial
 ·rw[if_neg e]at hV;exact hV
theorem c7.know{N:Nat}{s:TS}{a:Act}{w:World}{σ:Pl}(h:c7 U w0 σ0 K N s a w σ){d:Tmp}{A:TV}(hd:∀v,a.tmps[d]? =some v→VR (gr U (vw s.H) w σ) A v):c7 U w0 σ0 K N (s.put (some d) A) a w σ:=by
 refine⟨h.defers,h.len,fun t ht=> ?_,h.hr⟩;obtain⟨u,hu,hV⟩:=h.slot t ht;refine⟨u,hu,?_⟩;simp only[TS.put,oz];by_cases e:d=t
 ·subst e;rw[if_pos rfl];exact hd u hu
 ·rw[if_neg e];exact hV
theorem jjj{a:Act}{d:Tmp}{v:Value}(h:d<a.tmps.size):(a.put (some d) v).eval (.tmp d)=v:=by
 simp[Act.put,Act.eval,h]
theorem q4j{a:Act}{d t:Tmp}{v:Value}(h:d≠t):(a.put (some d) v).eval (.tmp t)=a.eval (.tmp t):=by
 simp[Act.put,Act.eval,h]
theorem jt9{a:Act}{d:Option Tmp}{v:Value}:(a.put d v).tmps.size=a.tmps.size:=by
 cases d<;>simp[Act.put]
theorem jkm(w:World)(b:Obj):Same w (w.alloc b):=by
 have h:∀(i:Nat) o,w.heap[i]? =some o→(w.alloc b).heap[i]? =some o:=fun i o hi=>by
  rw[Below.heap_alloc w _ i (Array.getElem?_eq_some_iff.1 hi).1];exact hi
 exact⟨by simp,fun _ _ _ _ hh=>h _ _ hh,fun _ _ _ hh=>h _ _ hh⟩
theorem jup{w w1:World}(hw:w1=w∨w1=w.drew){r:Nat}{m:Option Nat}{s:Nat}{seen:Array Nat}{c:Nat}(hr:w.heap[r]? =some (.mapIter m s seen c))(o:Obj):Same w (Go.ChangeMaps.setBlock w1 r o):=by
 have hh:w1.heap=w.heap:=by rcases hw with rfl|rfl<;>rfl
 have key:∀(i:Nat) x,w.heap[i]? =some x→(∀m s l c,x≠ .mapIter m s l c)→(Go.ChangeMaps.setBlock w1 r o).heap[i]? =some x:=fun i x hi hx=>by
  have hne:r≠i:=fun e=>by subst e;rw[hr]at hi;exact hx _ _ _ _ (Option.some.inj hi).symm
  simp only[Go.ChangeMaps.setBlock,hh];rw[Array.getElem?_setIfInBounds_ne hne];exact hi
 refine⟨by simp[Go.ChangeMaps.setBlock,hh],fun b cur e z hb=>key _ _ hb (by intros;simp),fun b es c hb=>key _ _ hb (by intros;simp)⟩
end
end Go.K
namespace Go.K
open Go.M Go.RowKit
section
variable {U : Nat → Prop} {w0 : World} {σ0 : Pl} {K : Nat → Bool} {N : Nat} {P : Program} {R Rf : Type}
theorem jkd{body:Code}{Q:Exit→Act→World→Prop}(I:Nat→Act→World→Prop)
  (round:∀n a w,I n a w→body.wp P (fun e a' w' =>match e with| .normal=>∃m,m<n∧I m a' w' |e=>Q e a' w') a w):∀n a w,I n a w→(Code.loop body).wp P Q a w:=by
 intro n0 a w h0
 suffices H:∀n a w,I n a w→∀b k cs,∃e a' w',Q e a' w' ∧Arrives P (lone (b.at a (.code body:: .inLoop body::k)) cs w) b k cs e a' w' by
  intro b k cs;obtain⟨e,a',w',hq,harr⟩:=H n0 a w h0 b k cs;exact⟨e,a',w',hq, .of_steps (.one step_loop) harr⟩
 intro n
 induction n using Nat.strongRecOn with
 |_ n ih=>
  intro a w hI b k cs;obtain⟨e,a₁,w₁,hq,harr⟩:=round n a w hI b (.inLoop body::k) cs;cases e with
  |normal=>
   obtain⟨m,hlt,hm⟩:=hq;obtain⟨e,a',w',hq',harr'⟩:=ih m hlt a₁ w₁ hm b k cs;exact⟨e,a',w',hq', .of_steps (Steps.trans harr (.one step_inLoop)) harr'⟩
  |exit id=>exact⟨_,a₁,w₁,hq,fun k' hk=>harr k' (by simpa[exitTo]using hk)⟩
  |goto l=>exact⟨_,a₁,w₁,hq,fun k' hk=>harr k' (by simpa[gotoIn]using hk)⟩
  |ret=>exact⟨_,a₁,w₁,hq,harr⟩
  |panic chain=>exact⟨_,a₁,w₁,hq,harr⟩
  |outgrown=>exact⟨_,a₁,w₁,hq,harr⟩
theorem jk6{o:Oper}{a:Act}{ty:TypeId}{m:Operand}(ho:o.op= .range ty m){w w' :World}{u:Value}(h:(Instr.range ty (a.eval m)).run P w= .ok u w'):(execOp a.eval o).run P w= .ok (.value u) w' :=by simp[execOp,ho,h,Result.andThen]
theorem jps{o:Oper}{a:Act}{it:Operand}(ho:o.op= .next it false){w w' :World}{u:Value}(h:(Instr.next (a.eval it) false o.type).run P w= .ok u w'):(execOp a.eval o).run P w= .ok (.value u) w' :=by simp[execOp,ho,h,Result.andThen]
theorem jk5{o:Oper}{a:Act}{it:Operand}(ho:o.op= .entry it){w w' :World}{u:Value}(h:(Instr.entry (a.eval it)).run P w= .ok u w'):(execOp a.eval o).run P w= .ok (.value u) w' :=by simp[execOp,ho,h,Result.andThen]
theorem jfg{o:Oper}{a:Act}{x:Operand}{l:Array Value}{i:Nat}{v:Value}(ho:o.op= .extract x i)(hx:a.eval x= .tuple l)(hv:l[i]? =some v){w:World}:(execOp a.eval o).run P w= .ok (.value v) w:=by
 simp[execOp,ho,Instr.extract,hx,hv,Result.andThen]
theorem qze{o:Oper}{a:Act}{w w' :World}{u:Value}{KK:Act→World→Prop}{Q:Exit→Act→World→Prop}(h:(execOp a.eval o).run P w= .ok (.value u) w')(hk:KK (a.put o.dst u) w'):o.wp P a w KK Q:=by
 unfold Oper.wp;rw[h];exact hk
theorem c7.over'{N:Nat}{s:TS}{a:Act}{w:World}{σ:Pl}{d:Tmp}(h:c7 U w0 σ0 K N s a w σ)(v:Value)(hd:bq s.S d= .any):c7 U w0 σ0 K N s (a.put (some d) v) w σ:=by
 refine⟨h.defers,by simp[Act.put,h.len],fun t ht=> ?_,h.hr⟩;by_cases e:d=t
 ·subst e;exact⟨v,by simp[Act.put,h.len,ht],by rw[hd];trivial⟩
 ·obtain⟨u,hu,hV⟩:=h.slot t ht;exact⟨u,by simp[Act.put,e,hu],hV⟩
structure RngC.Ok (p : RngC) (ty : TypeId) (m d0 d1 d3 : Tmp) : Prop where
 q0 : p.o0.op = .range ty (.tmp m)
 r0 : p.o0.dst = some d0
 g0 : p.o0.guard = none
 q1 : p.o1.op = .next (.tmp d0) false
 r1 : p.o1.dst = some d1
 g1 : p.o1.guard = none
 q2 : p.o2.op = .extract (.tmp d1) 0
 r2 : p.o2.dst = some p.b
 g2 : p.o2.guard = none
 q3 : p.o3.op = .entry (.tmp d0)
 r3 : p.o3.dst = some d3
 g3 : p.o3.guard = none
 n1 : Nat.beq d0 d1 = false
 n2 : Nat.beq d0 p.b = false
 n3 : Nat.beq d0 d3 = false
def jcl(w:World)(Y:Nat→Prop)(kt vt:Ty)(es:List (kt.den×vt.den))(r:Nat)(don:List (kt.den×vt.den))(k:Nat):Prop:=
 (w.heap[r]? =some (.mapIter none 0 #[] 0)∧es=[]∧don=[]∧k=0)∨
 ∃g hs clk since seen c0,g<w.heap.size∧¬Y g∧w.heap[g]? =some (.map hs clk)∧w.heap[r]? =some (.mapIter (some g) since seen c0)∧(∀x∈hs.toList,x.born<since)∧since≤c0∧since≤clk∧Stp hs clk∧hs.size=es.length∧
  (∀(i:Nat) e p,hs[i]? =some e→es[i]? =some p→e.key=kt.v1 p.1∧vt.C w Y p.2 0 e.val)∧(don++jb8 hs es seen).Perm es∧k=(leftOf hs seen).size
theorem jcl.low{w w' :World}{Y Y' :Nat→Prop}{kt vt:Ty}{es don:List (kt.den×vt.den)}{r k:Nat}(h:jcl w Y kt vt es r don k)(hl:Low w Y w' Y')(hr:w'.heap[r]? =w.heap[r]?):jcl w' Y' kt vt es r don k:=by
 rcases h with⟨h1,h2⟩|⟨g,hs,clk,since,seen,c0,hg,hY,hm,hi,a1,a2,a3,a4,a5,a6,a7⟩
 ·exact .inl ⟨hr.trans h1,h2⟩
 ·refine .inr ⟨g,hs,clk,since,seen,c0,Nat.lt_of_lt_of_le hg hl.size,hl.ex g hg hY,(hl.blk g hg hY).trans hm,hr.trans hi,a1,a2,a3,a4,a5,fun i e p he hp=> ?_,a7⟩;obtain⟨b1,b2⟩:=a6 i e p he hp;exact⟨b1,Ty.C_low hl vt _ 0 _ b2⟩
theorem jv6{a:Act}{d:Tmp}{v:Value}(h:a.tmps[d]? =some v):a.eval (.tmp d)=v:=by simp[Act.eval,h]
theorem jua{X:Ctx Rf}(hX:CtxOK P X)(hmix:P.follows .mixedOrders=true){n:Nat}{p:RngC}{ann:Ann}(hs:∀q∈po p.body ann,ao P X q.1 q.2)
  {ty kk ee:TypeId} {m d0 d1 d3:Tmp} (hp:p.Ok ty m d0 d1 d3) {b1 b2:Nat} {z1:List Value} (htt:X.tt ty=some ⟨.map kk ee,b1,b2,z1⟩)
  {fr:Bool} {kt vt:Ty} (hcell:vt.cell=true)
  {shI:Shp} {C S:Type} {un:shI.den→C×S} {mk:C→S→shI.den} {esF:C→List (kt.den×vt.den)} {stepK:{R:Type}→C→S→(kt.den×vt.den)→(S→Option R)→(Rf→Option R)→Option R}
  (hΛ:X.Λ n=some (qge Rf X.N X.tt X.wr X.kp p shI un mk esF stepK)) (hmk:∀x,mk (un x).1 (un x).2=x)
  (hsl:ji5 [d0,d1,p.b,d3] shI.sl=true) (hN:(Nat.blt d0 X.N&&Nat.blt m X.N&&Nat.blt d1 X.N&&Nat.blt p.b X.N&&Nat.blt d3 X.N)=true)
  (hmap:∀c a,bq (shI.enc (mk c a)).S m= .dm fr kt vt (esF c))
  (hpar:∀(R:Type) (K:Nat→C→S→Option R) (T:Rf→Option R) (r:Nat) (c:C) (a:S) (e:kt.den×vt.den),
   jgu X (p.o3::p.rest) p.rest (j3d shI mk d0 d1 p.b d3 fr kt vt r c a e) (fun s1=>den X p.body ann s1 (qwg X.N X.kp shI un d0 K) (fun i s' =>bif Nat.beq i p.id3 then qwg X.N X.kp shI un d0 K s' else none) T)=stepK c a e (K r c) T):
  ao P X n p.code:=by
 intro σ hσ;rw[hΛ]at hσ;cases hσ;intro U w0 σ0 K hK R s x o kn ke kr r hdec hm hcont;obtain⟨c,a0⟩:=x;simp only[qge]at hdec hm hcont;have hperm:=q2q hcont;clear hcont hm;simp only[Bool.and_eq_true]at hN;obtain⟨⟨⟨⟨hN0,hNm⟩,hN1⟩,hNb⟩,hN3⟩:=hN;have hN0:=cz hN0;have hNm:=cz hNm;have hN1:=cz hN1;have hNb:=cz hNb;have hN3:=cz hN3;have hany:∀(t:Nat),t∈[d0,d1,p.b,d3]→∀y:shI.den,bq (shI.enc y).S t= .any:=fun t ht y=>ji6 ht y.1 hsl
 have ne1:d0≠d1:=fun e=>by have:=hp.n1;rw[e,Nat.beq_refl]at this;cases this
 have ne2:d0≠p.b:=fun e=>by have:=hp.n2;rw[e,Nat.beq_refl]at this;cases this
 have ne3:d0≠d3:=fun e=>by have:=hp.n3;rw[e,Nat.beq_refl]at this;cases this
 intro av w σ hr;let I:Nat→Act→World→Prop:=fun k a w=>∃σ acc don rr,c7 U w0 σ0 K X.N ((shI.enc (mk c acc)).put (some d0) (itV rr)) a w σ∧w0.heap.size≤rr∧rr<w.heap.size∧
  jcl w (YY (cn σ) U fr) kt vt (esF c) rr don k∧qym stepK c a0 don=some (.inl acc)
 have hX0:CtxOK P (jwz X.N X.tt X.wr X.kp):=⟨hX.fits,fun f M hM=>by simp[jwz]at hM⟩;refine wp_seq (wp_region_lit ?_);refine jqo (R:=C×S) (X:=jwz X.N X.tt X.wr X.kp) hX0 hK (fun s1 a1 w1 σ1 hr1 hk1=> ?_) p.pre s av w σ hr hdec;cases hx:shI.dec X.N X.kp s1 with
 |none=>rw[hx]at hk1;cases hk1
 |some x=>
 rw[hx]at hk1;have hux:un x=(c,a0):=by simpa using hk1
 have hxe:x=mk c a0:=by
  have e:=hmk x;rw[hux]at e;exact e.symm
 obtain⟨σ2,hr2⟩:=Shp.dec_ok hK hx hr1;rw[hxe]at hr2;have hdm:=hr2.ev (.tmp m);have hevm:evT X.N (shI.enc (mk c a0)).S (.tmp m)= .dm fr kt vt (esF c):=by
  simp only[evT,rd];rw[show Nat.blt m X.N=true by rw[Nat.blt_eq];exact hNm];exact hmap c a0
 rw[hevm]at hdm;have hund:P.underlying ty=some (.map kk ee):=kz hX.fits htt;have hsz0:w0.heap.size≤w1.heap.size:=hr2.hr.size;have hbegin:∀ob,(∀Y:Nat→Prop,YY (cn σ2) U fr=Y→jcl (w1.alloc ob) Y kt vt (esF c) w1.heap.size [] (esF c).length)→I (esF c).length (a1.put (some d0) (.pointer (some ⟨w1.heap.size,0,none⟩))) (w1.alloc ob):=by
  intro ob hit;refine⟨σ2,a0,[],w1.heap.size,?_,hsz0,by simp,hit _ rfl,rfl⟩;have hr3:=ARel.same hr2 (jkm w1 ob) rfl rfl rfl (fun b hb=>Below.heap_alloc w1 ob b (Nat.lt_of_lt_of_le hb hsz0));exact c7.put (s:=shI.enc (mk c a0)) hr3 (some d0) (A:=itV w1.heap.size) rfl
 have hstart:∃ob,(Instr.range ty (a1.eval (.tmp m))).run P w1= .ok (.pointer (some ⟨w1.heap.size,0,none⟩)) (w1.alloc ob)∧I (esF c).length (a1.put (some d0) (.pointer (some ⟨w1.heap.size,0,none⟩))) (w1.alloc ob):=by
  rcases hdm with⟨hv,he⟩|⟨g,hs1,clk,hv,hg,hY,hh,hst,hlen,hent⟩
  ·refine⟨_,by rw[hv];exact run_range_nilMap w1 ty kk ee hund,hbegin _ fun Y hYe=> .inl ⟨heap_alloc_new w1 _,he,rfl,by rw[he];rfl⟩⟩
  ·refine⟨_,by rw[hv];exact run_range_map w1 ty kk ee g hs1 clk hund hh,hbegin _ fun Y hYe=> ?_⟩;subst hYe;have hg:g<w1.heap.size:=hg;have hlen:hs1.size=(esF c).length:=hlen;have hh:w1.heap[g]? =some (.map hs1 clk):=hh;have hlow:Low w1 (YY (cn σ2) U fr) (w1.alloc (.mapIter (some g) clk #[] clk)) (YY (cn σ2) U fr):=⟨by simp,fun _ _ h=>h,fun b hb _=>Below.heap_alloc w1 _ b hb⟩;refine .inr ⟨g,hs1,clk,clk,#[],clk,by simp;omega,hY,(Below.heap_alloc w1 _ g hg).trans hh,heap_alloc_new w1 _,hst.1,Nat.le_refl _,Nat.le_refl _,hst,hlen,fun i e q he hq=> ?_,?_,?_⟩
   ·obtain⟨c1,c2⟩:=hent i e q he hq;exact⟨c1,Ty.C_low hlow vt _ 0 _ c2⟩
   ·rw[jl4 hlen];exact List.Perm.refl _
   ·have:leftOf hs1 #[]=hs1:=by unfold leftOf;rw[Array.filter_eq_self];intro e _;simp
    rw[this,hlen]
 clear hbegin hdm;obtain⟨ob,hrun,hI0⟩:=hstart;refine wpList_plain hp.g0 fun K' hK' =>qze (jk6 hp.q0 hrun) (hK' _ _ (wpList_nil ?_))
 rw[hp.r0];let Q:Exit→Act→World→Prop:=fun e a' w' =>match e with
  | .exit id' =>id' =p.id∧∃s' σ',c7 U w0 σ0 K X.N s' a' w' σ' ∧kn s' =some r
  | .ret=>∃s' σ',c7 U w0 σ0 K X.N s' a' w' σ' ∧∃x,X.res s' =some x∧kr x=some r
  |_=>False
 refine wp_block (Code.wp_mono ?_ (jkd (Q:=Q) I ?_ _ _ _ hI0))
 ·rintro e a' w' hq;cases e with
  |exit id' =>
   obtain⟨rfl,s',σ',h1,h2⟩:=hq;simp only[Exit.inBlock,if_true];exact⟨s',σ',h1,h2⟩
  |ret=>obtain⟨s',σ',h1,h2⟩:=hq;exact⟨s',σ',h1,h2⟩
  |_=>exact hq.elim
 rintro k a w ⟨σ,acc,don,rr,hr,hrr0,hrr,hit,hF⟩;have hev:a.eval (.tmp d0)= .pointer (some ⟨rr,0,none⟩):=by
  obtain⟨v,h1,h2⟩:=hr.slot d0 hN0;simp only[TS.put,oz,if_true]at h2;rw[jv6 h1];exact h2
 have hd1:bq ((shI.enc (mk c acc)).put (some d0) (itV rr)).S d1= .any:=by simp only[TS.put,oz,if_neg ne1];exact hany d1 (by simp) _
 have hdb:bq ((shI.enc (mk c acc)).put (some d0) (itV rr)).S p.b= .any:=by simp only[TS.put,oz,if_neg ne2];exact hany p.b (by simp) _
 have hla:a.tmps.size=X.N:=hr.len;have hev1:∀v1,(a.put (some d1) v1).eval (.tmp d1)=v1:=fun v1=>jjj (by rw[hla];exact hN1)
 have hhead:∀(bb:Bool) (v1:Value) (w1:World),(Instr.next (.pointer (some ⟨rr,0,none⟩)) false p.o1.type).run P w= .ok v1 w1→(∃l,v1= .tuple l∧l[0]? =some (.bool bb))→
   (bb=false→Q (.exit p.id) ((a.put (some d1) v1).put (some p.b) (.bool bb)) w1)→
   (bb=true→(Code.block p.id3 (.seq (.region p.i3 (p.o3::p.rest).toArray false) p.body)).wp P (fun e a' w' =>match e with| .normal=>∃m,m<k∧I m a' w' |e=>Q e a' w') ((a.put (some d1) v1).put (some p.b) (.bool bb)) w1)→
   p.head.wp P (fun e a' w' =>match e with| .normal=>∃m,m<k∧I m a' w' |e=>Q e a' w') a w:=by
  rintro bb v1 w1 hrun ⟨l,rfl,hl⟩ hf ht;refine wp_seq (wp_region_lit ?_);refine wpList_plain hp.g1 fun K' hK' =>qze (jps hp.q1 (by rw[hev];exact hrun)) (hK' _ _ ?_)
  rw[hp.r1];refine wpList_plain hp.g2 fun K' hK' =>qze (jfg hp.q2 (hev1 _) hl) (hK' _ _ (wpList_nil ?_))
  rw[hp.r2];show(Code.seq _ _).wp P _ _ _;refine wp_seq (wp_cond_split (t:=bb) (jjj (by rw[jt9,hla];exact hNb)) (fun hb=>wp_skip ?_) (fun hb=>wp_exit ?_))
  ·exact ht hb
  ·exact hf hb
 rcases hit with⟨hi,hes,hdon,hk0⟩|⟨g,hs1,clk,since,seen,c0,hg,hY,hh,hi,hold,hsc,hsk,hst,hlen,hent,hpm,hkl⟩
 ·
  refine hhead false (.tuple #[.bool false]) w ?_ ⟨_,rfl,rfl⟩ (fun _=>⟨rfl,shI.enc (mk c acc),σ,((hr.over' _ hd1).over' _ hdb).drop (hany d0 (by simp) _),?_⟩) (fun h=>by cases h)
  ·simp only[Instr.next,getObj,Sem.run_bind,Sem.run,hi,Result.andThen];rfl
  ·obtain⟨y,h1,h2⟩:=hperm [] (by rw[hes]);subst hdon;rw[hF]at h1;cases h1;exact h2
 ·rcases run_next_at (P:=P) w p.o1.type rr g since c0 seen hs1 clk hi hh hold hsc with⟨h0,hrun⟩|⟨e,he,w1',hw1,hrun⟩
  ·
   refine hhead false _ w hrun ⟨_,rfl,rfl⟩ (fun _=>⟨rfl,shI.enc (mk c acc),σ,((hr.over' _ hd1).over' _ hdb).drop (hany d0 (by simp) _),?_⟩) (fun h=>by cases h);rw[jql h0,List.append_nil]at hpm;obtain⟨y,h1,h2⟩:=hperm don hpm;rw[hF]at h1;cases h1;exact h2
  ·
   refine hhead true _ _ hrun ⟨_,rfl,rfl⟩ (fun h=>by cases h) (fun _=> ?_);have hsame:=jup hw1 hi (.mapIter (some g) since (seen.push e.born) clk);have hoth:∀b:Nat,b≠rr→(Go.ChangeMaps.setBlock w1' rr (.mapIter (some g) since (seen.push e.born) clk)).heap[b]? =w.heap[b]? :=fun b hb=>by
    have hh1:w1'.heap=w.heap:=by rcases hw1 with rfl|rfl<;>rfl
    simp only[Go.ChangeMaps.setBlock,hh1];exact Array.getElem?_setIfInBounds_ne (fun e=>hb e.symm)
   have hself:(Go.ChangeMaps.setBlock w1' rr (.mapIter (some g) since (seen.push e.born) clk)).heap[rr]? =some (.mapIter (some g) since (seen.push e.born) clk):=by
    have hh1:w1'.heap=w.heap:=by rcases hw1 with rfl|rfl<;>rfl
    simp only[Go.ChangeMaps.setBlock,hh1];rw[Array.getElem?_setIfInBounds_self,if_pos hrr]
   have hsize:(Go.ChangeMaps.setBlock w1' rr (.mapIter (some g) since (seen.push e.born) clk)).heap.size=w.heap.size:=by rcases hw1 with rfl|rfl<;>simp[Go.ChangeMaps.setBlock]<;>rfl
   have hos:(Go.ChangeMaps.setBlock w1' rr (.mapIter (some g) since (seen.push e.born) clk)).os=w.os∧(Go.ChangeMaps.setBlock w1' rr (.mapIter (some g) since (seen.push e.born) clk)).tape=w.tape∧(Go.ChangeMaps.setBlock w1' rr (.mapIter (some g) since (seen.push e.born) clk)).output=w.output:=by rcases hw1 with rfl|rfl<;>exact⟨rfl,rfl,rfl⟩
   generalize Go.ChangeMaps.setBlock w1' rr (.mapIter (some g) since (seen.push e.born) clk)=w2 at hsame hoth hself hsize hos;have hr2:c7 U w0 σ0 K X.N ((shI.enc (mk c acc)).put (some d0) (itV rr)) a w2 σ:=ARel.same hr hsame hos.1 hos.2.1 hos.2.2 fun b hb=>hoth b (by omega)
   have hgr:g≠rr:=fun e=>by rw[e,hi]at hh;cases hh
   have hh2:w2.heap[g]? =some (.map hs1 clk):=(hoth g hgr).trans hh;obtain⟨j,q,hj1,hj2,hjp⟩:=jqm hst hlen he;obtain⟨hkey,hC⟩:=hent j e q hj1 hj2;have hC2:vt.C w2 (YY (cn σ) U fr) q.2 0 e.val:=Ty.C_same hsame vt _ 0 _ hC;have hpm2:(don++q::jb8 hs1 (esF c) (seen.push e.born)).Perm (esF c):=(List.Perm.append_left don hjp).symm.trans hpm;obtain⟨yF,hyF,hlk⟩:=hperm _ hpm2;have hB:qym stepK c acc (q::jb8 hs1 (esF c) (seen.push e.born))=some yF:=by
    have h:=q1j (fun a e=>stepK (R:=S⊕Rf) c a e (fun a' =>some (.inl a')) (fun r=>some (.inr r))) don (q::jb8 hs1 (esF c) (seen.push e.born)) a0;have h3:qym stepK c a0 don=some (.inl acc):=hF;simp only[qym]at h3 hyF;rw[hyF,h3]at h;exact h.symm
   have hleft:=left_shrinks hs1 seen e he;have hrelS:c7 U w0 σ0 K X.N (j3d shI mk d0 d1 p.b d3 fr kt vt rr c acc q) ((((a.put (some d1) (.tuple #[.bool true,e.key,e.val])).put (some p.b) (.bool true)).put (some d3) (.tuple #[e.key,e.val]))) w2 σ:=by
    refine c7.put (s:=(((shI.enc (mk c acc)).put (some d0) (itV rr)).put (some d1) .any).put (some p.b) .any) (c7.put (c7.put hr2 (some d1) (A:= .any) trivial) (some p.b) (A:= .any) trivial) (some d3) (A:= .tup [jt5 kt q.1,jau fr vt q.2]) ?_;refine⟨[e.key,e.val],rfl,_,_,rfl,by rw[hkey];exact q9e q.1,_,_,rfl,jr5 q.2 e.val hcell hC2,rfl⟩
   classical
   let K1:Nat→C→S→Option (S⊕Rf):=fun r' c' a' =>if r' =rr∧c' =c then some (.inl a')else none
   have hden:=hpar (S⊕Rf) K1 (fun r=>some (.inr r)) rr c acc q;have e1:K1 rr c=fun a' =>some (.inl a'):=by funext a';simp[K1]
   rw[e1]at hden;obtain⟨xv,hxv⟩:∃xv,stepK c acc q (fun a' =>some (.inl a')) (fun r=>some (Sum.inr r))=some xv:=by
    simp only[qym,qoz]at hB;revert hB;cases stepK c acc q (fun a' =>some (.inl a')) (fun r=>some (Sum.inr r))with
    |none=>intro h;cases h
    |some xv=>intro _;exact⟨xv,rfl⟩
   rw[hxv]at hden;have hbase:=hrelS.rebase;have hend:∀s' a' w' σ',c7 U w2 σ K X.N s' a' w' σ' →qwg X.N X.kp shI un d0 K1 s' =some xv→∃m,m<k∧I m a' w' :=by
    intro s' a' w' σ' hr' h;unfold qwg at h;split at h
    ·rename_i r' hrd;cases hx' :shI.dec X.N X.kp s' with
     |none=>rw[hx']at h;cases h
     |some x' =>
      rw[hx']at h;simp only[K1]at h;split at h
      ·rename_i hrc;obtain⟨hr1',hc1⟩:=hrc;cases h;obtain⟨σ3,hr3⟩:=Shp.dec_ok hK hx' hr';have hxe:x' =mk c (un x').2:=by
        have e:=hmk x';rw[hc1]at e;exact e.symm
       rw[hxe]at hr3;have hlow:=HR.lowY hr3.hr hbase.hr fr;have hnor:∀(T:TG) o,σ T≠some (rr,o):=fun T o hT=>by
        rcases hrelS.hr.kind hT with⟨cur,e',h⟩|⟨es',c',h⟩<;>rw[hself]at h<;>cases h
       have hblk:w'.heap[rr]? =w2.heap[rr]? :=hr3.hr.blk rr (by omega) hnor;refine⟨(leftOf hs1 (seen.push e.born)).size,by rw[hkl];exact hleft,σ3,(un x').2,don++[q],rr,?_,hrr0,by have:=hr3.hr.size;omega,?_,?_⟩
       ·have h4:c7 U w2 σ K X.N ((shI.enc (mk c (un x').2)).put (some d0) (itV rr)) a' w' σ3:=by
         refine hr3.know fun v hv=> ?_
         obtain⟨v',hv1,hv2⟩:=hr'.slot d0 hN0;rw[hv1]at hv;cases hv;have:bq s'.S d0=itV r' :=by
          have:=hrd;simp only[rd]at this;rw[show Nat.blt d0 X.N=true by rw[Nat.blt_eq];exact hN0]at this;exact this
         rw[this,hr1']at hv2;exact hv2
        exact ARel.comp hrelS.hr h4
       ·have hit2:jcl w2 (YY (cn σ) U fr) kt vt (esF c) rr (don++[q]) (leftOf hs1 (seen.push e.born)).size:=
         .inr ⟨g,hs1,clk,since,seen.push e.born,clk,by omega,hY,hh2,hself,hold,hsk,hsk,hst,hlen,fun i e' q' h1 h2=>by
          obtain⟨b1,b2⟩:=hent i e' q' h1 h2;exact⟨b1,Ty.C_same hsame vt _ 0 _ b2⟩,by rw[List.append_assoc];exact hpm2,rfl⟩
        exact hit2.low hlow hblk
       ·have h:=q1j (fun a e=>stepK (R:=S⊕Rf) c a e (fun a' =>some (.inl a')) (fun r=>some (.inr r))) don [q] a0;have h3:qym stepK c a0 don=some (.inl acc):=hF;simp only[qym]at h3⊢;rw[h,h3];simp only[qoz,hxv]
      ·cases h
    ·cases h
   have hev2:((a.put (some d1) (.tuple #[.bool true,e.key,e.val])).put (some p.b) (.bool true)).eval (.tmp d0)= .pointer (some ⟨rr,0,none⟩):=by
    rw[q4j (fun e=>ne2 e.symm),q4j (fun e=>ne1 e.symm)];exact hev
   refine wp_block (wp_seq (wp_region_lit (wpList_plain hp.g3 fun K' hK' =>qze (jk5 hp.q3 (by rw[hev2];exact run_entry_at w2 rr g since seen hs1 clk e hself hh2 (mem_left he).1 hst.2)) (hK' _ _ ?_))));rw[hp.r3];refine jn6 hX hK (fun s' a' w' σ' h' hk=> ?_) p.rest _ _ w2 σ hbase hden;show p.body.wp P _ a' w';refine Code.wp_mono ?_ (q7v hX hmix hK p.body ann _ _ _ _ hs hk a' w' σ' h');rintro e' a2 w2' ⟨s2,σ2',h1,hpost⟩;cases e' with
   |normal=>exact hend s2 a2 w2' σ2' h1 hpost
   |exit id' =>
    have hpost:(bif Nat.beq id' p.id3 then qwg X.N X.kp shI un d0 K1 s2 else none)=some xv:=hpost;have hid:=aw (ai hpost).1;subst hid;simp only[Exit.inBlock,if_true];exact hend s2 a2 w2' σ2' h1 (ai hpost).2
   |ret=>
    obtain⟨x',hres,hkx⟩:=hpost;cases hkx;refine⟨s2,σ2',ARel.comp hrelS.hr h1,x',hres,?_⟩;simp only[qym,qoz,hxv]at hB;cases hB;exact hlk
   |_=>exact hpost.elim
end
end Go.K
namespace Go.K
open Go.M Go.RowKit
section
variable {S E Rf R : Type}
noncomputable def tell(p:Prop):Option Unit:=by
 classical
 exact if p then some ()else none
theorem tz{p:Prop}:tell p=some ()↔p:=by
 unfold tell;split
 ·rename_i h;exact⟨fun _=>h,fun _=>rfl⟩
 ·rename_i h;exact⟨fun e=>(by cases e),fun e=>absurd e h⟩
def ndN(step:{Q:Type}→S→(S→Option Q)→(E→Option Q)→(Rf→Option Q)→Option Q)(dn:E→Option R)(rt:Rf→Option R)(r:R):Nat→S→Prop
 |0,_=>False
 |n+1,s=>step (Q:=Unit) s (fun s' =>tell (ndN step dn rt r n s')) (fun e=>tell (dn e=some r)) (fun x=>tell (rt x=some r))=some ()
noncomputable def ndK(step:{Q:Type}→S→(S→Option Q)→(E→Option Q)→(Rf→Option Q)→Option Q)(s:S)(dn:E→Option R)(rt:Rf→Option R):Option R:=by
 classical
 exact if h:∃r n,ndN step dn rt r n s then some h.choose else none
theorem jtz{step:{Q:Type}→S→(S→Option Q)→(E→Option Q)→(Rf→Option Q)→Option Q}{s:S}{dn:E→Option R}{rt:Rf→Option R}{r:R}(h:ndK step s dn rt=some r):∃n,ndN step dn rt r n s:=by
 unfold ndK at h;split at h
 ·rename_i h1;cases h;exact h1.choose_spec
 ·cases h
theorem jty{step:{Q:Type}→S→(S→Option Q)→(E→Option Q)→(Rf→Option Q)→Option Q}{s:S}{dn:E→Option R}{rt:Rf→Option R}{r:R}{n:Nat}(h:ndN step dn rt r n s)(hu:∀r' n',ndN step dn rt r' n' s→r' =r):ndK step s dn rt=some r:=by
 have h1:∃r n,ndN step dn rt r n s:=⟨r,n,h⟩;have h2:ndK step s dn rt=some h1.choose:=by
  unfold ndK;rw[dif_pos h1]
 obtain⟨n',hn'⟩:=h1.choose_spec;rw[h2,hu _ n' hn']
end
section
variable {P : Program} {Rf : Type}
noncomputable def q89(Rf:Type)(N:Nat)(kp:List Bool)(shI:Shp){C S:Type}(un:shI.den→C×S)(shE:Shp){CE E:Type}(mkE:CE→E→shE.den)(pE:C→CE)
  (stepK:{R:Type}→C→S→(S→Option R)→(E→Option R)→(Rf→Option R)→Option R):Summ Rf where
 A:=C×S
 O:=Unit
 dec:=fun s=>match shI.dec N kp s with|some x=>some (un x)|none=>none
 m:=fun _=>some ()
 cont:=fun x _ kn _ kr=>ndK (stepK x.1) x.2 (fun e=>kn (shE.enc (mkE (pE x.1) e))) kr
theorem j5h{X:Ctx Rf}(hX:CtxOK P X)(hmix:P.follows .mixedOrders=true){n id:Nat}{body:Code}{ann:Ann}(hs:∀p∈po body ann,ao P X p.1 p.2)
  {shI shE:Shp} {C S CE E:Type} {un:shI.den→C×S} {mk:C→S→shI.den} {unE:shE.den→CE×E} {mkE:CE→E→shE.den} {pE:C→CE}
  {stepK:{R:Type}→C→S→(S→Option R)→(E→Option R)→(Rf→Option R)→Option R}
  (hΛ:X.Λ n=some (q89 Rf X.N X.kp shI un shE mkE pE stepK)) (hmk:∀x,mk (un x).1 (un x).2=x) (hmkE:∀y,mkE (unE y).1 (unE y).2=y)
  (hpar:∀(R:Type) (K:C→S→Option R) (D:CE→E→Option R) (T:Rf→Option R) (c:C) (a:S),
   den X body ann (shI.enc (mk c a)) (fun s' =>match shI.dec X.N X.kp s' with|some x=>K (un x).1 (un x).2|none=>none)
    (fun id' s' =>bif Nat.beq id' id then(match shE.dec X.N X.kp s' with|some y=>D (unE y).1 (unE y).2|none=>none)else none) T=stepK c a (K c) (D (pE c)) T):
  ao P X n (.block id (.loop body)):=by
 intro σ hσ;rw[hΛ]at hσ;cases hσ;intro U w0 σ0 K hK R s x o kn ke kr r hdec hm hcont;obtain⟨c,a0⟩:=x;simp only[q89]at hdec hm hcont;obtain⟨n0,hn0⟩:=jtz hcont;cases hx:shI.dec X.N X.kp s with
 |none=>rw[hx]at hdec;cases hdec
 |some x=>
  rw[hx]at hdec;simp only[Option.some.injEq]at hdec;have hxe:x=mk c a0:=by
   have e:=hmk x;rw[hdec]at e;exact e.symm
  intro av w σ hr;obtain⟨σ1,hr1⟩:=Shp.dec_ok hK hx hr;rw[hxe]at hr1;have hround:∀p:Nat×S,ndN (stepK c) (fun e=>kn (shE.enc (mkE (pE c) e))) kr r p.1 p.2→∀a w σ,c7 U w0 σ0 K X.N (shI.enc (mk c p.2)) a w σ→
    body.wp P (fun e a' w' =>match e with
     | .normal=>∃(j:Nat×S) (σ' :Pl),ndN (stepK c) (fun e=>kn (shE.enc (mkE (pE c) e))) kr r j.1 j.2∧j.1<p.1∧c7 U w0 σ0 K X.N (shI.enc (mk c j.2)) a' w' σ'
     |e=>∃s' σ',c7 U w0 σ0 K X.N s' a' w' σ' ∧(match e with| .exit id' =>id' =id∧kn s' =some r| .ret=>∃x,X.res s' =some x∧kr x=some r|_=>False)) a w:=by
   rintro⟨k,a⟩ hp aa ww σσ hrel;cases k with
   |zero=>exact hp.elim
   |succ k=>
    classical
    let K1:C→S→Option Unit:=fun c' a' =>if c' =c then tell (ndN (stepK c) (fun e=>kn (shE.enc (mkE (pE c) e))) kr r k a')else none
    let D1:CE→E→Option Unit:=fun c' e=>if c' =pE c then tell (kn (shE.enc (mkE (pE c) e))=some r)else none
    let T1:Rf→Option Unit:=fun x=>tell (kr x=some r)
    have hden:=hpar Unit K1 D1 T1 c a;have e1:K1 c=fun a' =>tell (ndN (stepK c) (fun e=>kn (shE.enc (mkE (pE c) e))) kr r k a'):=by funext a';simp[K1]
    have e2:D1 (pE c)=fun e=>tell (kn (shE.enc (mkE (pE c) e))=some r):=by funext e;simp[D1]
    rw[e1,e2]at hden;have hp' :stepK c a (R:=Unit) (fun s' =>tell (ndN (stepK c) (fun e=>kn (shE.enc (mkE (pE c) e))) kr r k s')) (fun e=>tell (kn (shE.enc (mkE (pE c) e))=some r)) T1=some ():=hp;rw[hp']at hden;refine Code.wp_mono ?_ (q7v hX hmix hK body ann _ _ _ _ hs hden aa ww σσ hrel);rintro e a' w' ⟨s',σ',h1,hpost⟩;cases e with
    |normal=>
     have hk:(match shI.dec X.N X.kp s' with|some x=>K1 (un x).1 (un x).2|none=>none)=some ():=hpost;cases hx' :shI.dec X.N X.kp s' with
     |none=>rw[hx']at hk;cases hk
     |some x' =>
      rw[hx']at hk;simp only[K1]at hk;split at hk
      ·rename_i hc;have hn:=tz.1 hk;obtain⟨σ2,hr2⟩:=Shp.dec_ok hK hx' h1;refine⟨(k,(un x').2),σ2,hn,Nat.lt_succ_self k,?_⟩;have e:=hmk x';rw[hc]at e;rw[e];exact hr2
      ·cases hk
    |exit id' =>
     have hk1:(bif Nat.beq id' id then(match shE.dec X.N X.kp s' with|some y=>D1 (unE y).1 (unE y).2|none=>none)else none)=some ():=hpost;have hid' :=aw (ai hk1).1;have hk:=(ai hk1).2;cases hx' :shE.dec X.N X.kp s' with
     |none=>rw[hx']at hk;cases hk
     |some y=>
      rw[hx']at hk;simp only[D1]at hk;split at hk
      ·rename_i hc;have hn:=tz.1 hk;obtain⟨σ2,hr2⟩:=Shp.dec_ok hK hx' h1;refine⟨shE.enc (mkE (pE c) (unE y).2),σ2,?_,hid',hn⟩;have e:=hmkE y;rw[hc]at e;rw[e];exact hr2
      ·cases hk
    |ret=>
     obtain⟨x',hres,hk⟩:=hpost;exact⟨s',σ',h1,x',hres,tz.1 hk⟩
    |_=>exact hpost.elim
  have hloop:=CW.loop (P:=P) (Q:=fun e s' =>match e with| .exit id' =>id' =id∧kn s' =some r| .ret=>∃x,X.res s' =some x∧kr x=some r|_=>False) (fun p:Nat×S=>shI.enc (mk c p.2)) (fun p=>ndN (stepK c) (fun e=>kn (shE.enc (mkE (pE c) e))) kr r p.1 p.2) (fun p=>p.1) hround (n0,a0) hn0;refine wp_block (Code.wp_mono ?_ (hloop av w σ1 hr1));rintro e a' w' ⟨s',σ',h1,h2⟩;cases e with
  |normal=>exact h2.elim
  |exit id' =>
   obtain⟨rfl,hk⟩:=h2;simp only[Exit.inBlock,if_true];exact⟨s',σ',h1,hk⟩
  |ret=>exact⟨s',σ',h1,h2⟩
  |_=>exact h2.elim
end
end Go.K
namespace Go.K
open Go.M Go.RowKit
def rc(f:Func)(p:Nat):RngC:=j7o (jc f p)
section
variable {P : Program} {Rf : Type}
theorem nl{X:Ctx Rf}{n id:Nat}{f:Func}{p:Nat}{shI shE:Shp}{C S CE E:Type}{un:shI.den→C×S}{mkE:CE→E→shE.den}{pE:C→CE}
  {stepK:{R:Type}→C→S→(S→Option R)→(E→Option R)→(Rf→Option R)→Option R}
  (hΛ:X.Λ n=some (q89 Rf X.N X.kp shI un shE mkE pE stepK)) (hX:CtxM P X) (ann:Ann) {l:List (Nat×Code)} (hl:qpw P X l) (mk:C→S→shI.den) (unE:shE.den→CE×E)
  (hs:po (jc f p) ann=l:=by kernel_rfl) (hmk:∀x,mk (un x).1 (un x).2=x:=by intro _;kernel_rfl) (hmkE:∀y,mkE (unE y).1 (unE y).2=y:=by intro _;kernel_rfl)
  (hpar:∀(R:Type) (K:C→S→Option R) (D:CE→E→Option R) (T:Rf→Option R) (c:C) (a:S),
   den X (jc f p) ann (shI.enc (mk c a)) (fun s' =>match shI.dec X.N X.kp s' with|some x=>K (un x).1 (un x).2|none=>none)
    (fun id' s' =>bif Nat.beq id' id then(match shE.dec X.N X.kp s' with|some y=>D (unE y).1 (unE y).2|none=>none)else none) T=stepK c a (K c) (D (pE c)) T:=by intro R K D T c a;kernel_rfl):
  ao P X n (lc id f p):=
 j5h hX.ok hX.mix (qpw.all hs hl) hΛ hmk hmkE hpar
theorem rl{X:Ctx Rf}{n:Nat}{p:RngC}{shI:Shp}{C S:Type}{un:shI.den→C×S}{mk:C→S→shI.den}(kt vt:Ty){esF:C→List (kt.den×vt.den)}{stepK:{R:Type}→C→S→(kt.den×vt.den)→(S→Option R)→(Rf→Option R)→Option R}
  (hΛ:X.Λ n=some (qge Rf X.N X.tt X.wr X.kp p shI un mk esF stepK)) (hX:CtxM P X) (ann:Ann) {l:List (Nat×Code)} (hl:qpw P X l) (ty m d0 d1 d3:Nat) (fr:Bool) {kk ee:TypeId} {b1 b2:Nat} {z1:List Value} (htt:X.tt ty=some ⟨.map kk ee,b1,b2,z1⟩)
  (hs:po p.body ann=l:=by kernel_rfl) (hp:p.Ok ty m d0 d1 d3:=by exact⟨by kernel_rfl,by kernel_rfl,by kernel_rfl,by kernel_rfl,by kernel_rfl,by kernel_rfl,by kernel_rfl,by kernel_rfl,by kernel_rfl,by kernel_rfl,by kernel_rfl,by kernel_rfl,by kernel_rfl,by kernel_rfl,by kernel_rfl⟩)
  (hcell:vt.cell=true:=by kernel_rfl) (hmk:∀x,mk (un x).1 (un x).2=x:=by intro _;kernel_rfl) (hsl:ji5 [d0,d1,p.b,d3] shI.sl=true:=by kernel_rfl)
  (hN:(Nat.blt d0 X.N&&Nat.blt m X.N&&Nat.blt d1 X.N&&Nat.blt p.b X.N&&Nat.blt d3 X.N)=true:=by kernel_rfl)
  (hmap:∀c a,bq (shI.enc (mk c a)).S m= .dm fr kt vt (esF c):=by intro c a;kernel_rfl)
  (hpar:∀(R:Type) (K:Nat→C→S→Option R) (T:Rf→Option R) (r:Nat) (c:C) (a:S) (e:kt.den×vt.den),
   jgu X (p.o3::p.rest) p.rest (j3d shI mk d0 d1 p.b d3 fr kt vt r c a e) (fun s1=>den X p.body ann s1 (qwg X.N X.kp shI un d0 K) (fun i s' =>bif Nat.beq i p.id3 then qwg X.N X.kp shI un d0 K s' else none) T)=stepK c a e (K r c) T:=by intro R K T r c a e;kernel_rfl):
  ao P X n p.code:=
 jua hX.ok hX.mix (qpw.all hs hl) hp htt hcell hΛ hmk hsl hN hmap hpar
end
end Go.K
namespace Go.K
def ltL:List Int→List Int→Bool
 |_,[]=>false
 |[],_::_=>true
 |a::l,b::m=>if a=b then ltL l m else decide (a<b)
def jp0(x:List Int):List (List Int)→List (List Int)
 |[]=>[x]
 |y::l=>if ltL y x then y::jp0 x l else x::y::l
def srt:List (List Int)→List (List Int)
 |[]=>[]
 |x::l=>jp0 x (srt l)
def jqx(d:List (List Int)):Option (List (List Int)):=if d.length<4611686018427387904 then some (srt d)else none
end Go.K
namespace Go.K
open Go.M Go.RowKit
section
variable {P : Program}
abbrev rmX(N:Nat)(tt:TT)(wr dt:Bool)(kp:List Bool)(gl:List (FuncId×Mdl))(rs:List ResultVar)(sh:Shp):Ctx sh.den:=⟨N,tt,wr,dt,kp,j8 gl,lm [],cm N tt kp rs sh (fun x=>x)⟩
def rmF(fn:Func)(N:Nat)(tt:TT)(wr dt:Bool)(kp:List Bool)(gl:List (FuncId×Mdl))(rs:List ResultVar)(l:ShL)(objs:List Hs)(sh:Shp)(ann:Ann)(a:l.den×kd objs):Option sh.den:=
 den (rmX N tt wr dt kp gl rs sh) (qe1 fn) ann ⟨qks 0 (l.enc a.1),da objs a.2⟩ (cm N tt kp rs sh (fun x=>x)) (fun _ _=>none) some
abbrev dh(fn:Func)(N:Nat)(tt:TT)(wr dt:Bool)(kp:List Bool)(gl:List (FuncId×Mdl))(rs:List ResultVar)(l:ShL)(objs:List Hs)(sh:Shp)(ann:Ann):Mdl:=ay l objs kp rs.length sh (B:=sh.den) (fun b=>b) (rmF fn N tt wr dt kp gl rs l objs sh ann)
theorem dg{f:FuncId}{fn:Func}{N:Nat}{tt:TT}{wr dt:Bool}{kp:List Bool}{gl:List (FuncId×Mdl)}{rs:List ResultVar}{l:ShL}{objs:List Hs}{sh:Shp}{ann:Ann}(hf:P.funcs[f]? =some fn)(hF:c9 P tt)(hm:P.follows .mixedOrders=true)(hg:jay P gl)
  (hname:(fn.name== "runtime.NumGoroutine")=false:=by kernel_rfl) (hb:fn.body=some (qe1 fn):=by kernel_rfl) (hN:fn.ntmps=N:=by kernel_rfl) (hrs:fn.results=rs.toArray:=by kernel_rfl) (hs:po (qe1 fn) ann=[]:=by kernel_rfl) (hl:Nat.ble l.len N=true:=by kernel_rfl) (hfr:sh.frB=true:=by kernel_rfl):
  MdlOK P f (dh fn N tt wr dt kp gl rs l objs sh ann):=
 nj (X:=rmX N tt wr dt kp gl rs sh) (un:=fun x=>x) hf rfl (lw hF hm hg) ann s0 hname hb hN hrs (fun _=>rfl) hs hl hfr (fun _=>rfl)
abbrev rmN(f:FuncId)(fn:Func)(N:Nat)(tt:TT)(wr dt:Bool)(kp:List Bool)(gl:List (FuncId×Mdl))(rs:List ResultVar)(l:ShL)(objs:List Hs)(sh:Shp)(ann:Ann):Mdl:=
 ay l objs kp rs.length sh (B:=sh.den) (fun b=>b) (fun a=>j29 (fun rec a=>rmF fn N tt wr dt kp ((f,ay l objs kp rs.length sh (B:=sh.den) (fun b=>b) rec)::gl) rs l objs sh ann a) many a)
theorem rmR{f:FuncId}{fn:Func}{N:Nat}{tt:TT}{wr dt:Bool}{kp:List Bool}{gl:List (FuncId×Mdl)}{rs:List ResultVar}{l:ShL}{objs:List Hs}{sh:Shp}{ann:Ann}(hf:P.funcs[f]? =some fn)(hF:c9 P tt)(hm:P.follows .mixedOrders=true)(hg:jay P gl)
  (hname:(fn.name== "runtime.NumGoroutine")=false:=by kernel_rfl) (hb:fn.body=some (qe1 fn):=by kernel_rfl) (hN:fn.ntmps=N:=by kernel_rfl) (hrs:fn.results=rs.toArray:=by kernel_rfl) (hs:po (qe1 fn) ann=[]:=by kernel_rfl) (hl:Nat.ble l.len N=true:=by kernel_rfl) (hfr:sh.frB=true:=by kernel_rfl):
  MdlOK P f (rmN f fn N tt wr dt kp gl rs l objs sh ann):=
 j3a (B:=sh.den) (F:=fun rec a=>rmF fn N tt wr dt kp ((f,ay l objs kp rs.length sh (B:=sh.den) (fun b=>b) rec)::gl) rs l objs sh ann a) hf hname hb hfr fun _ hrec=>dg hf hF hm ⟨hrec,hg⟩ hname hb hN hrs hs hl hfr
theorem jga{f:FuncId}{l:ShL}{objs:List Hs}{kp:List Bool}{k:Nat}{sh:Shp}{B:Type}{mk:B→sh.den}{m m' :l.den×kd objs→Option B}(h:MdlOK P f (ay l objs kp k sh mk m))(hm:∀a b,m' a=some b→m a=some b):MdlOK P f (ay l objs kp k sh mk m'):=
 ⟨h.fn,fun a b hb=>h.run a b (hm a b hb),h.dec,fun a b hb=>h.fresh a b (hm a b hb),h.cs⟩
end
end Go.K
