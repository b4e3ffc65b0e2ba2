/-
  A typed machine over the model's memory (part KE). No program is named.
-/
import Derived.ProofKit
import Derived.Deep.Slices
import Derived.Deep.Fields
import Derived.ChangeSame
import Derived.Below
import Derived.Carry
import Derived.OpenShut
import Derived.KernelRfl
import Derived.Maps.Range
import Derived.Test.YtocndcbobdnagaaGreatDoorZ3KD
set_option linter.all false
namespace Go.K
open Go.M Go.RowKit
section
variable {U U' : Nat -> Prop} {w0 : World} {J0 : Pl} {K : Nat -> Bool} {H Hv : List TOb} {w : World} {J : Pl} {ρ : Rho} {bo : Bool} {l : List Hs} {y : na l}
theorem jlm(hl:HLe (fun _=>False) Hv H){i tg:Nat}{ty:TypeId}{md md' :Md}{its:List TypeId}{t:Ty}{xs:List t.den}{H' :List TOb}(ho:Hv[tg]? =some (.arr ty md' its t xs))(ho' :H'[i]? =some (.arr ty md its t xs))(hm:jnz md md' =true)(j f:Nat):
  vw H' (.r i j f)=vw H (.r tg j f):=by
 rw[l9 ho',l9 (hl.ob ho)];have:md.isOwn=md'.isOwn:=by cases md<;>cases md' <;>simp_all[jnz,Md.isOwn]
 rw[this]
theorem j4c(hr:HR U w0 J0 K (vw H) w J)(hl:HLe (fun _=>False) Hv H)(hok:qxa ρ=true)(hu:∀b,U' b->U b\/da J b)(hnb:bo=false->∀b,U' b->U b)(hy:qsu bo ρ Hv ρ l=some y):Cv U U' w0 J0 K H Hv (du l y) w J ρ bo:=by
 obtain⟨_,_,hat⟩:=q35 ρ l y hy;refine⟨hr,hl,hok,hu,hnb,fun i tg hi=> ?_,fun i hi=> ?_,fun i tg hi j f q hq=> ?_⟩
 ·obtain⟨hs,xi,h1,h2⟩:=hat i _ hi;rcases Hs.dec_cases h1 with⟨e,_⟩|⟨tg',ty,md,md',its,t,xs,e,ho,_,he⟩|⟨tg',ty,sz,n,m,cs,x,e,ho,_,_,he⟩|⟨tg',kt,vt,es,e,ho,he⟩|⟨tg',kt,u1,ety,es,e,ho,he⟩
  ·cases e
  ·cases e;rw[he]at h2;simp only[aj,az h2,az (hl.ob ho),Wd]
  ·cases e;rw[he]at h2;simp only[aj,qfs h2,qfs (hl.obc ho),Wd]
  ·cases e;rw[he]at h2;simp only[aj,qqv h2,qqv (hl.obm ho),Wd]
  ·cases e;rw[he]at h2;simp only[aj,qa0 h2,qa0 (hl.obo ho),Wd]
 ·obtain⟨hs,xi,h1,h2⟩:=hat i _ hi;rcases Hs.dec_cases h1 with⟨_,ty,md,its,t,_,he⟩|⟨tg',ty,md,md',its,t,xs,e,_⟩|⟨tg',ty,sz,n,m,cs,x,e,_⟩|⟨tg',kt,vt,es,e,_⟩|⟨tg',kt,u1,ety,es,e,_⟩
  ·rw[he]at h2;exact⟨t.sz,by simp only[aj,az h2,Wd];rfl⟩
  ·cases e
  ·cases e
  ·cases e
  ·cases e
 ·obtain⟨hs,xi,h1,h2⟩:=hat i _ hi;rcases Hs.dec_cases h1 with⟨e,_⟩|⟨tg',ty,md,md',its,t,xs,e,ho,hm,he⟩|⟨tg',ty,sz,n,m,cs,x,e,ho,_,_,he⟩|⟨tg',kt,vt,es,e,ho,he⟩|⟨tg',kt,u1,ety,es,e,ho,he⟩
  ·cases e
  ·cases e;rw[he]at h2;simp only[aj]at hq⊢;rw[jlm hl ho h2 hm j f];exact hq
  ·cases e;simp only[aj,vw,hl.obc ho,vwR,KN]at hq;cases hq
  ·cases e;simp only[aj,vw,hl.obm ho,vwR,KN]at hq;cases hq
  ·cases e;rw[he]at h2;simp only[aj,qm (hl.obo ho)]at hq;simp only[aj,qm h2];exact hq
theorem jzv(hr:HR U w0 J0 K (vw H) w J)(hok:qxa ρ=true):∀T T' g o o',pg ρ J T=some (g,o)->pg ρ J T' =some (g,o')->T=T' :=by
 intro T T' g o o' h1 h2;obtain⟨tg,e1,e2⟩:=qcn h1;obtain⟨tg',e3,e4⟩:=qcn h2;have e:=hr.inj _ _ _ _ _ e2 e4;have et:tg=tg' :=by have:=W0 TG.ob e;simpa only[TG.at_ob]using this
 subst et;exact TG.at_inj e (q8p hok e1 e3)
theorem jzu(hr:HR U w0 J0 K (vw H) w J)(hl:HLe (fun _=>False) Hv H)(hy:qsu bo ρ Hv ρ l=some y):∀T p,pg ρ J T=some p->∃v,vw (du l y) T=some v:=by
 intro T p hp;obtain⟨tg,e1,e2⟩:=qcn hp;obtain⟨v,hv⟩:=hr.dom _ _ e2;obtain⟨hs,xi,h1,h2⟩:=(q35 ρ l y hy).2.2 _ _ e1;rcases Hs.dec_cases h1 with⟨e,_⟩|⟨tg',ty,md,md',its,t,xs,e,ho,hm,he⟩|⟨tg',ty,sz,n,m,cs,x,e,ho,_,_,he⟩|⟨tg',kt,vt,es,e,ho,he⟩|⟨tg',kt,u1,ety,es,e,ho,he⟩
 ·cases e
 ·cases e;rw[he]at h2;cases T with
  |o i=>exact⟨_,az h2⟩
  |r i j f=>exact⟨v,(jlm hl ho (i:=i) h2 hm j f).trans hv⟩
 ·cases e;rw[he]at h2;cases T with
  |o i=>exact⟨_,qfs h2⟩
  |r i j f=>
   simp only[TG.at,vw,hl.obc ho,vwR]at hv;cases hv
 ·cases e;rw[he]at h2;cases T with
  |o i=>exact⟨_,qqv h2⟩
  |r i j f=>
   simp only[TG.at,vw,hl.obm ho,vwR]at hv;cases hv
 ·cases e;rw[he]at h2;cases T with
  |o i=>exact⟨_,qa0 h2⟩
  |r i j f=>
   simp only[TG.at]at hv;rw[qm (hl.obo ho)]at hv;exact⟨v,by rw[qm (H:=du l y) (t:=i) h2];exact hv⟩
theorem jzw(h:Cv U U' w0 J0 K H Hv (du l y) w J ρ bo)(hy:qsu bo ρ Hv ρ l=some y):∀T v,vw (du l y) T=some v->OR (gr U' (vw (du l y)) w (pg ρ J)) (pg ρ J T) v:=by
 intro T v hv;obtain⟨hlen,hlen',hat⟩:=q35 ρ l y hy;have hlt:T.ob<(du l y).length:=by
  cases T with
  |o i=>
   simp only[vw]at hv;rcases Wz i (du l y).length with h1|h1
   ·exact h1
   ·rw[Wp h1]at hv;cases hv
  |r i j f=>
   simp only[vw]at hv;rcases Wz i (du l y).length with h1|h1
   ·exact h1
   ·rw[Wp h1]at hv;cases hv
 have hρ:ρ[T.ob]? =some ρ[T.ob]:=Wi (by omega);obtain⟨hs,xi,h1,h2⟩:=hat _ _ hρ;rcases Hs.dec_cases h1 with⟨e,ty,md,its,t,hm,he⟩|⟨tg,ty,md,md',its,t,xs,e,ho,hm,he⟩|⟨tg,ty,sz,n,m,cs,x,e,ho,hd,hn0,he⟩|⟨tg,kt,vt,es,e,ho,he⟩|⟨tg,kt,u1,ety,es,e,ho,he⟩
 ·rw[e]at hρ;have:pg ρ J T=none:=by simp only[pg,hρ]
  rw[this];rw[he]at h2;cases T with
  |o i=>
   have h2:(du l y)[i]? =_:=h2;rw[az h2]at hv;cases hv;rfl
  |r i j f=>
   have h2:(du l y)[i]? =_:=h2;rw[l9 h2,if_neg (by simp)]at hv;cases hv
 ·rw[e]at hρ;rw[qdu hρ];rw[he]at h2;have ho' :=h.le.ob ho;cases T with
  |o i=>
   have h2:(du l y)[i]? =_:=h2;rw[az h2]at hv;cases hv;have hob:=h.hr.obj _ _ (az ho');show OR _ (J (.o tg)) _;cases hp:J (.o tg)with
   |none=>rw[hp]at hob;exact hob
   |some p=>
    rw[hp]at hob;obtain⟨g,o⟩:=p;rcases hob with⟨hp0,cur,c,h3,h4,h5,h6⟩|⟨h3,h4,es,k,hh,hmo⟩
    rotate_left
    ·exact .inr ⟨h3,h4,es,k,hh,hmo.sb (θ:=fun _=> .id) (fun i f=>zap (A:=b7 tg md' t xs i f) (B:=b7 _ md t xs i f) (qbe h3) (qbe h3)) fun j y hy=>by show VR _ (b7 _ md t xs j 1) y;rw[qbe h3];trivial⟩
    refine .inl ⟨hp0,cur,c,h3,h4,h5,fun j f hj hf=> ?_⟩;obtain⟨u,hu,h7,hV⟩:=h6 j f hj hf;refine⟨u,hu,h7,?_⟩;simp only[]at hV hf hj⊢;cases md with
    |fz fr=>
     cases md' with
     |fz fr' =>
      rw[ns]at hV⊢;have hC:=(Ty.C_iff (gr U (vw H) w J) fr' t _ f u hf).2 hV;refine(Ty.C_iff (gr U' (vw (du l y)) w (pg ρ J)) fr t _ f u hf).1 (Ty.C_low (w:=w) (w' :=w) ⟨Wg _,fun b hb hY hY' =>(h.low fr).ex b hb (fun hY2=>hY ?_) hY',fun _ _ _=>rfl⟩ t _ f u hC);rcases hY2 with e|⟨e1,e2⟩
      ·exact .inl e
      ·exact .inr ⟨qmj hm e1,e2⟩
     |_=>simp[jnz]at hm
    |own=>
     cases md' with
     |own=>
      unfold b7 at hV⊢;simp only[Md.fr]at hV⊢;split at hV
      ·rename_i fr0 v0 ys0 hc;obtain⟨n0,sz0,hI,hs0⟩:=hV;have hk:=jlm h.le ho h2 hm j f;refine⟨n0,sz0,?_,?_⟩
       ·show aj (vw (du l y)) _=_;simp only[aj,TG.ob]at hk⊢;rw[hk];exact hI
       ·rcases hs0 with hs0|⟨g1,o1,c1,cur1,e1,hJ1,r1⟩
        ·exact .inl hs0
        ·exact .inr ⟨g1,o1,c1,cur1,e1,(qdu (T:= .r i j f) hρ).trans hJ1,r1⟩
      ·rename_i hns;have hform:=Ty.cells_form true t (xs.getD j t.dft);have hmem:(t.cells true (xs.getD j t.dft)).getD f .any∈t.cells true (xs.getD j t.dft):=by
        have hlt2:f<(t.cells true (xs.getD j t.dft)).length:=by rw[Ty.cells_len];exact hf
        generalize t.cells true (xs.getD j t.dft)=L at hlt2;rw[Wa,Wi hlt2];exact Hb _
       have hf1:=hform _ hmem;generalize(t.cells true (xs.getD j t.dft)).getD f .any=A at hns hV hf1;cases A with
       |int k n=>exact hV
       |bool b=>exact hV
       |val u=>exact hV
       |sl fr0 t0 xs0=>exact absurd rfl (hns fr0 t0 xs0)
       |_=>simp[qbc]at hf1
     |_=>simp[jnz]at hm
    |hole i0 f0=>cases md' <;>simp[jnz]at hm
    |swap i0 j0=>cases md' <;>simp[jnz]at hm
  |r i j f=>
   have h2:(du l y)[i]? =_:=h2;have hk:=jlm h.le ho h2 hm j f;rw[hk]at hv;have hob:=h.hr.obj _ _ hv;show OR _ (J (.r tg j f)) _;cases hp:J (.r tg j f)with
   |none=>rw[hp]at hob;exact hob
   |some p=>
    rw[hp]at hob;obtain⟨g,o⟩:=p;rcases hob with⟨hp0,cur,c,h3,h4,h5,h6⟩|⟨h3,h4,es,k,hh,hmo⟩
    rotate_left
    ·exact .inr ⟨h3,h4,es,k,hh,hmo.sb (θ:=fun _=> .id) (fun i f=>(TV.sb_id _).symm) fun j' y hy=>by
      rw[l9 ho']at hv;split at hv
      ·cases hin:ek t (xs.getD j t.dft) f with
       |none=>rw[hin]at hv;cases hv
       |some z=>
        obtain⟨v0,ys0⟩:=z;rw[hin]at hv;cases hv;have:(v0.cells true (ys0.getD j' v0.dft)).getD 1 .any= .any:=qj3 h3 _ _ _;show VR _ ((v0.cells true (ys0.getD j' v0.dft)).getD 1 .any) y;rw[this]
        trivial
      ·cases hv⟩
    refine .inl ⟨hp0,cur,c,h3,h4,h5,fun j' f' hj hf=> ?_⟩;obtain⟨u,hu,h7,hV⟩:=h6 j' f' hj hf;refine⟨u,hu,h7,?_⟩;rw[l9 ho']at hv;split at hv
    ·cases hin:ek t (xs.getD j t.dft) f with
     |none=>rw[hin]at hv;cases hv
     |some z=>
      obtain⟨v0,ys0⟩:=z;rw[hin]at hv;cases hv;have hC:=(Ty.C_iff (gr U (vw H) w J) true v0 _ f' u hf).2 hV;exact(Ty.C_iff (gr U' (vw (du l y)) w (pg ρ J)) true v0 _ f' u hf).1 (Ty.C_low (h.low true) v0 _ f' u hC)
    ·cases hv
 ·rw[e]at hρ;rw[qdu hρ];rw[he]at h2;have ho' :=h.le.obc ho;cases T with
  |o i=>
   have h2:(du l y)[i]? =_:=h2;rw[qfs h2]at hv;cases hv;have hob:=h.hr.obj _ _ (qfs ho');show OR _ (J (.o tg)) _;cases hp:J (.o tg)with
   |none=>rw[hp]at hob;exact hob
   |some p=>
    rw[hp]at hob;obtain⟨g,o⟩:=p;obtain⟨cur,c,h3,h4,h5,h6⟩:=hob.cells (.inr hn0);refine .inl ⟨.inr hn0,cur,c,h3,h4,h5,fun j f hj hf=> ?_⟩;obtain⟨u,hu,h7,hV⟩:=h6 j f hj hf;exact⟨u,hu,h7,ShL.dec_at h m cs x hd _ u hV⟩
  |r i j f=>
   have h2:(du l y)[i]? =_:=h2;simp only[vw,h2,vwR]at hv;cases hv
 ·rw[e]at hρ;rw[qdu hρ];rw[he]at h2;have ho' :=h.le.obm ho;cases T with
  |o i=>
   have h2:(du l y)[i]? =_:=h2;rw[qqv h2]at hv;cases hv;have hob:=h.hr.obj _ _ (qqv ho');show OR _ (J (.o tg)) _;cases hp:J (.o tg)with
   |none=>rfl
   |some p=>
    rw[hp]at hob;obtain⟨g,o⟩:=p;obtain⟨es,k,hh,hmo⟩:=hob.map rfl rfl;exact .inr ⟨rfl,rfl,es,k,hh,jsq (jk2 hmo) hmo.1⟩
  |r i j f=>
   have h2:(du l y)[i]? =_:=h2;simp only[vw,h2,vwR]at hv;cases hv
 ·rw[e]at hρ;rw[qdu hρ];rw[he]at h2;have ho' :=h.le.obo ho;have hk:∀i j f,T.ob=i->vw (du l y) (.r i j f)=vw H (.r tg j f):=fun i j f hi=>by subst hi;rw[qm h2,qm ho']
  cases T with
  |o i=>
   have h2:(du l y)[i]? =_:=h2;rw[qa0 h2]at hv;cases hv;have hob:=h.hr.obj _ _ (qa0 ho');show OR _ (J (.o tg)) _;cases hp:J (.o tg)with
   |none=>rfl
   |some p=>
    rw[hp]at hob;obtain⟨g,o⟩:=p;obtain⟨hs,k,hh,hmo⟩:=hob.map rfl rfl;refine .inr ⟨rfl,rfl,hs,k,hh,wz.mk' hmo.1 (fun j e' he' => ?_) fun j he' => ?_⟩
    ·obtain⟨q1,q2⟩:=hmo.at_ he';have q1:moC tg kt es none j 0=_:=q1;have q2:VR _ (moC tg kt es none j 1) _:=q2;show moC i kt es none j 0=_/\VR _ (moC i kt es none j 1) _;cases hp' :es[j]? with
     |none=>rw[qrm hp']at q1;cases q1
     |some p' =>
      rw[qgq hp']at q1;rw[qms hp',if_neg (by simp)]at q2;refine⟨by rw[qgq hp'];exact q1,?_⟩;rw[qms hp',if_neg (by simp)];obtain⟨n0,sz0,hI,hs0⟩:=q2;refine⟨n0,sz0,?_,?_⟩
      ·show aj (vw (du l y)) _=_;simp only[aj,hk i j 0 rfl];exact hI
      ·rcases hs0 with hs0|⟨g1,o1,c1,cur1,e1,hJ1,r1⟩
       ·exact .inl hs0
       ·exact .inr ⟨g1,o1,c1,cur1,e1,(qdu (T:= .r i j 0) hρ).trans hJ1,r1⟩
    ·have:=(hmo.no he').1;have this:moC tg kt es none j 0= .any:=this;show moC i kt es none j 0=_/\moC i kt es none j 1=_;cases hp' :es[j]? with
     |none=>exact⟨qrm hp',qrm hp'⟩
     |some p' =>rw[qgq hp']at this;cases this
  |r i j f=>
   rw[hk i j f rfl]at hv;have hob:=h.hr.obj _ _ hv;show OR _ (J (.r tg j f)) _;cases hp:J (.r tg j f)with
   |none=>rw[hp]at hob;exact hob
   |some p=>
    rw[hp]at hob;obtain⟨g,o⟩:=p;rw[qm ho']at hv;split at hv
    ·cases hv;rcases hob with⟨hp0,cur,c,h3,h4,h5,h6⟩|⟨h3,h4,hs,k,hh,hmo⟩
     rotate_left
     ·exact .inr ⟨h3,h4,hs,k,hh,hmo.sb (θ:=fun _=> .id) (fun i f=>(TV.sb_id _).symm) fun i y hy=>by
       have:(u1.cells true ((qeh es j).getD i u1.dft)).getD 1 .any= .any:=qj3 h3 _ _ _;show VR _ ((u1.cells true ((qeh es j).getD i u1.dft)).getD 1 .any) y;rw[this]
       trivial⟩
     refine .inl ⟨hp0,cur,c,h3,h4,h5,fun j' f' hj hf=> ?_⟩;obtain⟨u,hu,h7,hV⟩:=h6 j' f' hj hf;refine⟨u,hu,h7,?_⟩;have hC:=(Ty.C_iff (gr U (vw H) w J) true u1 _ f' u hf).2 hV;exact(Ty.C_iff (gr U' (vw (du l y)) w (pg ρ J)) true u1 _ f' u hf).1 (Ty.C_low (h.low true) u1 _ f' u hC)
    ·cases hv
end
end Go.K
namespace Go.K
open Go.M Go.RowKit
section
variable {U : Nat -> Prop} {w0 : World} {J0 : Pl} {K : Nat -> Bool} {w : World} {J : Pl} {ρ : Rho}
theorem jkw:∀{kp:List Bool} {t0:Nat} {ρ:Rho},jvj t0 kp ρ=true->∀t,bt kp t=true->ρ[t0+t]? =some (some (t0+t))
 |[],_,_,_,t,h=>by simp[bt]at h
 |true::kp,t0,ρ,h,t,hk=>by
  simp only[jvj,Wc]at h;cases t with
  |zero=>
   have h1:=h.1;split at h1
   ·rename_i t' e;rw[KU,e,ax h1]
   ·cases h1
  |succ t=>
   have:=jkw h.2 t (by simpa[bt]using hk);rw[show t0+(t+1)=t0+1+t by omega];exact this
 |false::kp,t0,ρ,h,t,hk=>by
  cases t with
  |zero=>simp[bt]at hk
  |succ t=>
   have:=jkw (kp:=kp) (t0:=t0+1) (ρ:=ρ) h t (by simpa[bt]using hk);rw[show t0+(t+1)=t0+1+t by omega];exact this
theorem zc3{H:List TOb}{l:List Hs}{y:na l}{kp:List Bool}(hK:∀t,bt kp t=false->K t=false)(hr:HR U w0 J0 K (vw H) w J)(hok:qxa ρ=true)(hkp:jvj 0 kp ρ=true)(hy:qsu false ρ H ρ l=some y):
  Cv U U w0 J0 K H H (du l y) w J ρ false/\HR U w0 J0 K (vw (du l y)) w (pg ρ J):=by
 have hcv:Cv U U w0 J0 K H H (du l y) w J ρ false:=j4c hr (HLe.refl H) hok (fun b h=> .inl h) (fun _ b h=>h) hy;refine⟨hcv,jzv hr hok,jzu hr (HLe.refl H) hy,jzw hcv hy,fun T g o hT=> ?_,hr.os,hr.tape,hr.output,hr.size,hr.blk,fun t ht=> ?_,hr.ksz,hr.ulow,hr.tb0⟩
 ·obtain⟨tg,_,h2⟩:=qcn hT;exact hr.own _ _ _ h2
 ·have hk:bt kp t=true:=by
   cases hb:bt kp t with
   |true=>rfl
   |false=>rw[hK t hb]at ht;cases ht
  have:=jkw hkp t hk;rw[WR]at this;rw[qdu (T:= .o t) this];exact hr.keep t ht
theorem qyo(ρ:List Nat)(J:Pl):pg (ρ.map some) J=qp5 ρ J:=by
 funext T;unfold pg qp5;by_cases h:T.ob<ρ.length
 ·rw[if_pos h,W6,Wi h,Wa,Wi h];rfl
 ·rw[if_neg h,W6,Wp (by omega)];rfl
theorem jrf{ρ:List Nat}{t:Nat}:qe t (ρ.map some)=inL t ρ:=by
 cases h:inL t ρ with
 |true=>rw[q37]at h;exact qr6.2 (WG.2 ⟨t,h,rfl⟩)
 |false=>
  rw[q38]at h;refine qk8.2 fun hm=> ?_
  obtain⟨t',h1,h2⟩:=WG.1 hm;injection h2 with h2
  subst h2;exact h h1
theorem zbf{H Hv:List TOb}{l:List Hs}{y:na l}{ρ:List Nat}(K' :Nat->Bool)(hr:HR U w0 J0 K (vw H) w J)(hl:HLe (fun _=>False) Hv H)(hok:qxa (ρ.map some)=true)(hy:qsu true (ρ.map some) Hv (ρ.map some) l=some y):
  Cv U (qhb ρ U J) w0 J0 K H Hv (du l y) w J (ρ.map some) true/\HR (qhb ρ U J) w (qp5 ρ J) K' (vw (du l y)) w (qp5 ρ J):=by
 have hcv:Cv U (qhb ρ U J) w0 J0 K H Hv (du l y) w J (ρ.map some) true:=j4c hr hl hok (fun b h=>h.imp id fun⟨T,o,h1,_⟩=>⟨T,o,h1⟩) (fun e=>by cases e) hy;refine⟨hcv,?_⟩;have hi:=jzv hr hok;have hd:=jzu hr hl hy;have ho:=jzw hcv hy;rw[qyo]at hi hd ho;refine⟨hi,hd,ho,fun T g o hT=>⟨?_, .inr ⟨T,o,hT⟩⟩,rfl,rfl,rfl,Wg _,fun _ _ _=>rfl,fun _ _=>rfl,fun t g o _ _ cur e hc=>⟨cur,hc,rfl⟩,fun b hb=> ?_,fun g c hc=>⟨(hr.tb g c hc).1,fun T o hT=> ?_⟩⟩
 ·rw[<-qyo]at hT;obtain⟨tg,h1,h2⟩:=qcn hT;rintro(hu|⟨T',o',h3,h4⟩)
  ·exact(hr.own _ _ _ h2).1 hu
  ·have e:=hr.inj _ _ _ _ _ h2 h3;rw[<-e,TG.at_ob,<-jrf]at h4;exact qk8.1 h4 (WV h1)
 ·rcases hb with hu|⟨T',o',h3,_⟩
  ·exact WL (hr.ulow b hu) hr.size
  ·exact hr.lt h3
 ·rw[<-qyo]at hT;obtain⟨tg,h1,h2⟩:=qcn hT;exact(hr.tb g c hc).2 _ _ h2
theorem jo2{bo:Bool}{s:TS}:∀(l:List (Nat×Sh)) (x:jfr l),jtx bo ρ s l=some x->∀t,bu (qiw l x) t= .any\/∃(sh:Sh) (xi:sh.den),sh.dec bo ρ s.H (bu s.S t)=some xi/\bu (qiw l x) t=sh.enc xi
 |[],x,h,t=> .inl rfl
 |p::l,x,h,t=>by
  unfold jtx at h;split at h
  ·rename_i x1 hx;split at h
   ·rename_i y hy;cases h;simp only[qiw,q7];by_cases e:p.1=t
    ·rw[if_pos e,<-e];exact .inr ⟨p.2,x1,hx,rfl⟩
    ·rw[if_neg e];exact jo2 l y hy t
   ·cases h
  ·cases h
end
end Go.K
namespace Go.K
open Go.M Go.RowKit
section
variable {U : Nat -> Prop} {w0 : World} {J0 : Pl} {K : Nat -> Bool} {N : Nat}
theorem jsk{s:TS}{a:Act}{w:World}{J:Pl}(h:dr U w0 J0 K N s a w J){t off n:Nat}(hK:K t=false){v:Value}(hV:VR (gr U (vw s.H) w J) (.ownS (.o t) off n) v){ty:TypeId}{fr:Bool}{its:List TypeId}{u:Ty}{xs:List u.den}(ho:s.H[t]? =some (.arr ty (.fz fr) its u xs))(hpos:0<u.sz):
  ∃J',dr U w0 J0 K N ⟨sbS (bi t) s.S,(cx (bi t) s.H).set t (.arr ty (.fz fr) its u ((xs.drop off).take n))⟩ a w J' /\VR (gr U (vw ((cx (bi t) s.H).set t (.arr ty (.fz fr) its u ((xs.drop off).take n)))) w J') (.own (.o t)) v/\∀T:TG,¬T.ob=t->J' T=J T:=by
 obtain⟨m,sz,hI,hle,hs⟩:=hV;have hI' :aj (vw s.H) (.o t)=some (m,sz):=hI;simp only[aj,az ho,Wd,Wb,Wj]at hI';obtain⟨rfl,rfl⟩:=hI';have hxl:((xs.drop off).take n).length=n:=by simp;omega
 have hlt:t<(cx (bi t) s.H).length:=by rw[c7];exact(Wh.1 ho).1
 have hat:((cx (bi t) s.H).set t (.arr ty (.fz fr) its u ((xs.drop off).take n)))[t]? =some (.arr ty (.fz fr) its u ((xs.drop off).take n)):=Wl hlt;obtain⟨pl,hpl⟩:∃pl:Option (Nat×Nat),(∀g o,pl=some (g,o)->∃o',J (.o t)=some (g,o'))/\SlR w (fun T=>if T= .o t then pl else J T) (.o t) u.sz 0 n v/\
   (pl=none->n=0)/\∀g o,pl=some (g,o)->∃o',J (.o t)=some (g,o')/\o=o' +off*u.sz/\∃c cur,w.heap[g]? =some (.cells cur ty (0,0))/\cur.size=o+c*u.sz/\n<=c:=by
  rcases hs with⟨b,rfl,rfl⟩|⟨g,o,c,cur,e,hJ,rfl,hnc,hcm,hh,hsz⟩
  ·exact⟨none,(fun g o e=>by cases e), .inl ⟨b,rfl,rfl⟩,fun _=>rfl,(fun g o e=>by cases e)⟩
  ·have hJ' :J (.o t)=some (g,o):=hJ;have hob:=h.hr.obj _ _ (az ho);rw[hJ']at hob;obtain⟨cur',c',h1,_⟩:=hob.cells (.inl hpos);have hh' :w.heap[g]? =some (.cells cur e (0,0)):=hh;have h1' :w.heap[g]? =some (.cells cur' ty (0,0)):=h1;have e1:cur=cur' /\e=ty:=by rw[hh']at h1';simp only[Wb,KO]at h1';exact⟨h1'.1,h1'.2.1⟩
   obtain⟨rfl,rfl⟩:=e1;have hsz' :cur.size=o+off*u.sz+c*u.sz:=by rw[hsz,WM];omega
   refine⟨some (g,o+off*u.sz),(fun g' o' e=>by cases e;exact⟨o,hJ'⟩), .inr ⟨g,o+off*u.sz,c,cur,e,by simp,by simp,hnc,hcm,hh,by rw[hsz'];simp⟩,(fun e=>by cases e),fun g' o' e=> ?_⟩;cases e;exact⟨o,hJ',rfl,c,cur,hh',hsz',hnc⟩
 obtain⟨hpl1,hpl2,hpl3,hpl4⟩:=hpl;let J' :Pl:=fun T=>if T= .o t then pl else J T
 have hrow:∀i f,vw s.H (.r t i f)=none:=fun i f=>by rw[l9 ho,if_neg (by simp[Md.isOwn])]
 have hJr:∀i f,J (.r t i f)=none:=by
  intro i f;cases hq:J (.r t i f)with
  |none=>rfl
  |some q=>obtain⟨v0,hv0⟩:=h.hr.dom _ _ hq;rw[hrow]at hv0;cases hv0
 have hVn:∀T:TG,¬T.ob=t->vw ((cx (bi t) s.H).set t (.arr ty (.fz fr) its u ((xs.drop off).take n))) T=(vw s.H T).map (Vw.sb (bi t)):=fun T hT=>by
  rw[eh hT];exact qya fun i f=>rfl
 have hJn:∀T:TG,¬T.ob=t->J' T=J T:=fun T hT=>if_neg fun e=>hT (by rw[e];rfl)
 have hown:∀T g o,T.ob=t->J' T=some (g,o)->(∃T0 o0,J T0=some (g,o0))\/w.heap.size<=g:=by
  intro T g o hT hg;cases T with
  |o t' =>
   simp only[TG.ob]at hT;subst hT;simp only[J',Kw]at hg;obtain⟨o',h1⟩:=hpl1 g o hg;exact .inl ⟨_,o',h1⟩
  |r t' i f=>
   simp only[TG.ob]at hT;subst hT;simp only[J',reduceCtorEq,KI]at hg;rw[hJr]at hg;cases hg
 have hm:Mv (bi t) (gr U (vw s.H) w J) (gr U (vw ((cx (bi t) s.H).set t (.arr ty (.fz fr) its u ((xs.drop off).take n)))) w J'):=by
  refine Mv.upd h.hr (fun t' =>t' =t) (Wg _) hVn hJn (fun _ _ _ _ _=>rfl) (fun _ _ _=>rfl) hown (fun T q hT T' e=> ?_) (fun T T' q hT ht hq=> ?_) (fun T fr u xs q e=> ?_)
  ·cases T with
   |o t' =>simp only[bi]at e;cases hb:Nat.beq t' t<;>rw[hb]at e<;>cases e
   |r t' i f=>simp only[bi]at e;cases e
  ·cases T with
   |o t' =>
    simp only[TG.ob]at hT;subst hT;simp only[bi,W5,WQ,reduceCtorEq,false_and,or_self]at ht
   |r t' i f=>
    simp only[TG.ob]at hT;subst hT;simp only[aj,hrow]at hq;cases hq
  ·cases T with
   |o t' =>simp only[bi]at e;cases hb:Nat.beq t' t<;>rw[hb]at e<;>cases e
   |r t' i f=>simp only[bi]at e;cases e
 have hr' :dr U w0 J0 K N ⟨sbS (bi t) s.S,(cx (bi t) s.H).set t (.arr ty (.fz fr) its u ((xs.drop off).take n))⟩ a w J' :=by
  refine ARel.go h hm (fun t' =>fv _ _ _) (h.hr.upd (fun t' =>t' =t) hm hVn hJn (fun _ _ _ _ _=>rfl) (fun T v0 hT hv0=> ?_) (fun T q hT hq=> ?_) hown (fun T T' g o o' h1 h2=> ?_) rfl rfl rfl (fun t' ht' e=>by subst e;rw[hK]at ht';cases ht') (fun t' g o ht' e=>by subst e;rw[hK]at ht';cases ht'))
  ·cases T with
   |r t' i f=>
    simp only[TG.ob]at hT;subst hT;rw[l9 hat,if_neg (by simp[Md.isOwn])]at hv0;cases hv0
   |o t' =>
    simp only[TG.ob]at hT;subst hT;rw[az hat]at hv0;cases hv0;have e0:J' (.o t')=pl:=if_pos rfl;cases hq:pl with
    |none=>
     rw[e0,hq];show((xs.drop off).take n).length=0;rw[hxl];exact hpl3 hq
    |some q=>
     obtain⟨g,o⟩:=q;rw[e0,hq];obtain⟨o',h1,h2,c,cur,h3,h4,h5⟩:=hpl4 g o hq;have hob:=h.hr.obj _ _ (az ho);rw[h1]at hob;obtain⟨cur',c',k1,k2,k3,k4⟩:=hob.cells (.inl hpos);have k1' :w.heap[g]? =some (.cells cur' ty (0,0)):=k1;rw[h3]at k1';simp only[Wb,KO]at k1';obtain⟨rfl,_⟩:=k1';refine .inl ⟨.inl hpos,cur,c,h3,h4,by rw[hxl];exact h5,fun i f hi hf=> ?_⟩;have hi:i<n:=Nat.lt_of_lt_of_eq hi hxl;obtain⟨y,hy,k5,hVy⟩:=k4 (off+i) f (by simp only[];omega) hf;refine⟨y,?_,k5,?_⟩
     ·rw[<-hy,h2,WM];congr 1;simp only[];omega
     ·simp only[ns]at hVy⊢;have e:((xs.drop off).take n).getD i u.dft=xs.getD (off+i) u.dft:=by
       simp only[Wa,WZ,if_pos hi,WI]
      rw[e];have h9:=VR.mv hm _ y hVy;rw[Ty.cells_sb]at h9;exact h9
  ·cases T with
   |r t' i f=>
    simp only[TG.ob]at hT;subst hT;simp only[J',reduceCtorEq,KI]at hq;rw[hJr]at hq;cases hq
   |o t' =>
    simp only[TG.ob]at hT;subst hT;exact⟨_,az hat⟩
  ·have key:∀T g o,J' T=some (g,o)->∃o',J T=some (g,o'):=by
    intro T g o hT;by_cases e:T= .o t
    ·subst e;simp only[J',Kw]at hT;exact hpl1 g o hT
    ·simp only[J',if_neg e]at hT;exact⟨o,hT⟩
   obtain⟨o1,h3⟩:=key T g o h1;obtain⟨o2,h4⟩:=key T' g o' h2;exact h.hr.inj _ _ _ _ _ h3 h4
 have hV' :VR (gr U (vw ((cx (bi t) s.H).set t (.arr ty (.fz fr) its u ((xs.drop off).take n)))) w J') (.own (.o t)) v:=⟨n,u.sz,by simp only[gr,aj,az hat,Wd,hxl],hpl2⟩;exact⟨J',hr',hV',hJn⟩
theorem j7k{s:TS}{a:Act}{w:World}{J:Pl}(h:dr U w0 J0 K N s a w J){p t off n:Nat}(hp:p<N)(hK:K t=false)(hv:bu s.S p= .ownS (.o t) off n){ty:TypeId}{fr:Bool}{its:List TypeId}{u:Ty}{xs:List u.den}(ho:s.H[t]? =some (.arr ty (.fz fr) its u xs))(hpos:0<u.sz):
  ∃J',dr U w0 J0 K N ⟨(p, .own (.o t))::sbS (bi t) s.S,(cx (bi t) s.H).set t (.arr ty (.fz fr) its u ((xs.drop off).take n))⟩ a w J' :=by
 obtain⟨v,hav,hV⟩:=h.slot p hp;rw[hv]at hV;obtain⟨J',hr',hV',_⟩:=jsk h hK hV ho hpos;refine⟨J',hr'.defers,hr'.len,fun t' ht' => ?_,hr'.hr⟩;simp only[q7];by_cases e:p=t'
 ·subst e;rw[if_pos rfl];exact⟨v,hav,hV'⟩
 ·rw[if_neg e];exact hr'.slot t' ht'
theorem HR.cell{H:List TOb}{w:World}{J:Pl}(h:HR U w0 J0 K (vw H) w J){tb:Nat}{ty:TypeId}{sz:Nat}{cs:List TV}(ho:H[tb]? =some (.cs ty sz 1 cs)){j:Nat}(hj:j<sz){A:TV}
  (hA:∀g o cur e x,J (.o tb)=some (g,o)->w.heap[g]? =some (.cells cur e (0,0))->cur[o+j]? =some x->VR (gr U (vw H) w J) A x):HR U w0 J0 K (vw (H.set tb (.cs ty sz 1 (cs.set j A)))) w J:=by
 have hlt:tb<H.length:=(Wh.1 ho).1;have hat:(H.set tb (.cs ty sz 1 (cs.set j A)))[tb]? =some (.cs ty sz 1 (cs.set j A)):=Wl hlt;have hne:∀T:TG,¬T.ob=tb->vw (H.set tb (.cs ty sz 1 (cs.set j A))) T=vw H T:=fun T hT=>eh hT
 have hro:∀i f,vw H (.r tb i f)=none:=fun i f=>by simp[vw,ho,vwR]
 have hro' :∀i f,vw (H.set tb (.cs ty sz 1 (cs.set j A))) (.r tb i f)=none:=fun i f=>by simp only[vw,hat,vwR]
 have hO:vw H (.o tb)=some ⟨ty,sz,1,fun i f=>cs.getD (i*sz+f) .any⟩:=by simp[vw,ho,vwO]
 have hO' :vw (H.set tb (.cs ty sz 1 (cs.set j A))) (.o tb)=some ⟨ty,sz,1,fun i f=>(cs.set j A).getD (i*sz+f) .any⟩:=by simp only[vw,hat,vwO]
 have hinfo:aj (vw (H.set tb (.cs ty sz 1 (cs.set j A))))=aj (vw H):=by
  funext T;by_cases e:T.ob=tb
  ·cases T with
   |o t=>simp only[TG.ob]at e;subst e;simp only[aj,hO,hO',Wd]
   |r t i f=>simp only[TG.ob]at e;subst e;simp only[aj,hro,hro']
  ·simp only[aj,hne T e]
 have hgr:gr U (vw (H.set tb (.cs ty sz 1 (cs.set j A)))) w J=gr U (vw H) w J:=by simp only[gr,hinfo]
 refine⟨h.inj,fun T p hp=> ?_,fun T v hv=> ?_,h.own,h.os,h.tape,h.output,h.size,h.blk,h.keep,h.ksz,h.ulow,h.tb0⟩
 ·obtain⟨v,hv⟩:=h.dom T p hp;by_cases e:T.ob=tb
  ·cases T with
   |o t=>simp only[TG.ob]at e;subst e;exact⟨_,hO'⟩
   |r t i f=>simp only[TG.ob]at e;subst e;rw[hro]at hv;cases hv
  ·exact⟨v,by rw[hne T e];exact hv⟩
 ·rw[hgr];by_cases e:T.ob=tb
  ·cases T with
   |r t i f=>simp only[TG.ob]at e;subst e;rw[hro']at hv;cases hv
   |o t=>
    simp only[TG.ob]at e;subst e;rw[hO']at hv;cases hv;have h0:=h.obj _ _ hO;cases hs:J (.o t)with
    |none=>rw[hs]at h0;exact h0
    |some q=>
     obtain⟨g,o⟩:=q;rw[hs]at h0;obtain⟨cur,c,k1,k2,k3,k4⟩:=h0.cells (.inr Nat.one_pos);refine .inl ⟨.inr Nat.one_pos,cur,c,k1,k2,k3,fun i f hi hf=> ?_⟩;have hi0:i=0:=by simp only at hi;omega
     subst hi0;obtain⟨x,hx,k5,hVx⟩:=k4 0 f (by simp) hf;refine⟨x,hx,k5,?_⟩;simp only[Nat.zero_mul,WR]at hx hVx⊢;by_cases ef:f=j
     ·subst ef;by_cases hl:f<cs.length
      ·rw[Wa,Wl hl];exact hA g o cur ty x hs k1 hx
      ·rw[Wa,Wp (by simp;omega)]
       trivial
     ·rw[Wa,WF (Ko ef),<-Wa];exact hVx
  ·rw[hne T e]at hv;exact h.obj T v hv
theorem j1x{kp:List Bool}(hK:∀t,bt kp t=false->K t=false){s:TS}{a:Act}{w:World}{J:Pl}(h:dr U w0 J0 K N s a w J)(tb j:Nat):∃J',dr U w0 J0 K N (j7i kp tb j s) a w J' :=by
 unfold j7i;split
 ·rename_i ty sz n cs hb;split
  ·rename_i t off m hv;split
   ·rename_i ty2 fr its u xs ho;cases hc:(!bt kp t&&Nat.beq n 1&&Nat.blt j sz&& !Nat.beq t tb&&Nat.blt 0 u.sz)with
    |false=>exact⟨J,h⟩
    |true=>
     simp only[Wc,WE]at hc;obtain⟨⟨⟨⟨c1,c2⟩,c3⟩,c4⟩,c5⟩:=hc;have hn:=ax c2;subst hn;have hj:=cm c3;have htb:¬tb=t:=fun e=>by subst e;rw[W5]at c4;cases c4
     have hO:vw s.H (.o tb)=some ⟨ty,sz,1,fun i f=>cs.getD (i*sz+f) .any⟩:=by simp[vw,hb,vwO]
     have h0:=h.hr.obj _ _ hO;cases hs:J (.o tb)with
     |none=>rw[hs]at h0;cases h0
     |some q=>
      obtain⟨g,o⟩:=q;rw[hs]at h0;obtain⟨cur,c,k1,k2,k3,k4⟩:=h0.cells (.inr Nat.one_pos);obtain⟨x,hx,k5,hVx⟩:=k4 0 j (by simp) hj;simp only[Nat.zero_mul,WR]at hx hVx;rw[hv]at hVx;obtain⟨J',hr',hV',hJ'⟩:=jsk h (hK t c1) hVx ho (cm c5);have hb' :((cx (bi t) s.H).set t (.arr ty2 (.fz fr) its u ((xs.drop off).take m)))[tb]? =some (.cs ty sz 1 (TV.sbL (bi t) cs)):=by
       rw[WF (Ko htb),ij,hb];rfl
      refine⟨J',?_⟩;have hh:=HR.cell hr'.hr hb' hj (A:= .own (.o t)) (fun g' o' cur' e x' e1 e2 e3=>by
       rw[hJ' (.o tb) htb,hs]at e1;cases e1;have k1' :w.heap[g]? =some (.cells cur ty (0,0)):=k1;rw[k1']at e2;simp only[Wb,KO]at e2;obtain⟨rfl,_⟩:=e2;rw[hx]at e3;cases e3;exact hV')
      have hgr:gr U (vw (((cx (bi t) s.H).set t (.arr ty2 (.fz fr) its u ((xs.drop off).take m))).set tb (.cs ty sz 1 ((TV.sbL (bi t) cs).set j (.own (.o t)))))) w J' =gr U (vw ((cx (bi t) s.H).set t (.arr ty2 (.fz fr) its u ((xs.drop off).take m)))) w J' :=by
       have hlt:tb<((cx (bi t) s.H).set t (.arr ty2 (.fz fr) its u ((xs.drop off).take m))).length:=(Wh.1 hb').1;simp only[gr,Gr.mk.injEq,true_and];funext T;by_cases e:T.ob=tb
       ·cases T with
        |o t' =>simp only[TG.ob]at e;subst e;simp only[aj,vw,Wl hlt,hb',vwO,Wd]
        |r t' i f=>simp only[TG.ob]at e;subst e;simp only[aj,vw,Wl hlt,hb',vwR]
       ·simp only[aj,eh e]
      refine⟨hr'.defers,hr'.len,fun t' ht' => ?_,hh⟩;obtain⟨y,hy,hVy⟩:=hr'.slot t' ht';refine⟨y,hy,?_⟩;simp only[WQ];rw[hgr];exact hVy
   ·exact⟨J,h⟩
  ·exact⟨J,h⟩
 ·exact⟨J,h⟩
theorem jda{kp:List Bool}(hK:∀t,bt kp t=false->K t=false){a:Act}{w:World}(tb:Nat):∀(l:List TV) (j:Nat) {s:TS} {J:Pl},dr U w0 J0 K N s a w J->∃J',dr U w0 J0 K N (jsi kp tb j l s) a w J'
 |[],j,s,J,h=>⟨J,h⟩
 |v::l,j,s,J,h=>by
  unfold jsi;cases jyq v with
  |true=>obtain⟨J1,h1⟩:=j1x hK h tb j;exact jda hK tb l (j+1) h1
  |false=>exact jda hK tb l (j+1) h
theorem qoq{kp:List Bool}(hK:∀t,bt kp t=false->K t=false){a:Act}{w:World}:∀(l:List TOb) (tb:Nat) {s:TS} {J:Pl},dr U w0 J0 K N s a w J->∃J',dr U w0 J0 K N (jsj kp tb l s) a w J'
 |[],tb,s,J,h=>⟨J,h⟩
 | .cs _ _ _ cs::l,tb,s,J,h=>by
  obtain⟨J1,h1⟩:=jda hK tb cs 0 h;exact qoq hK l (tb+1) h1
 | .arr _ _ _ _ _::l,tb,s,J,h=>qoq hK l (tb+1) h
 | .mp _ _ _::l,tb,s,J,h=>qoq hK l (tb+1) h
 | .mo _ _ _ _ _::l,tb,s,J,h=>qoq hK l (tb+1) h
 | .gone::l,tb,s,J,h=>qoq hK l (tb+1) h
theorem j1y{kp:List Bool}(hK:∀t,bt kp t=false->K t=false){s:TS}{a:Act}{w:World}{J:Pl}(h:dr U w0 J0 K N s a w J)(p:Nat):∃J',dr U w0 J0 K N (j7j N kp p s) a w J' :=by
 unfold j7j;split
 ·rename_i t off n hv;split
  ·rename_i ty fr its u xs ho;cases hb:(!bt kp t&&Nat.blt p N&&Nat.blt 0 u.sz)with
   |false=>exact⟨J,h⟩
   |true=>
    simp only[Wc,WE]at hb;exact j7k h (cm hb.1.2) (hK t hb.1.1) hv ho (cm hb.2)
  ·exact⟨J,h⟩
 ·exact⟨J,h⟩
theorem wd{kp:List Bool}(hK:∀t,bt kp t=false->K t=false){a:Act}{w:World}:∀(l:List (Nat×Sh)) {s:TS} {J:Pl},dr U w0 J0 K N s a w J->∃J',dr U w0 J0 K N (jxu N kp l s) a w J'
 |[],s,J,h=>⟨J,h⟩
 |(p, .own i)::l,s,J,h=>by
  obtain⟨J1,h1⟩:=j1y hK h p;exact wd hK l h1
 |(p, .d _ _)::l,s,J,h=>wd hK l h
 |(p, .rp _ _)::l,s,J,h=>wd hK l h
 |(p, .kid _ _)::l,s,J,h=>wd hK l h
 |(p, .ptr _)::l,s,J,h=>wd hK l h
 |(p, .mp _)::l,s,J,h=>wd hK l h
 |(p, .dm _ _ _)::l,s,J,h=>wd hK l h
 |(p, .it)::l,s,J,h=>wd hK l h
 |(p, .e)::l,s,J,h=>wd hK l h
 |(p, .fn _ _)::l,s,J,h=>wd hK l h
 |(p, .agg _)::l,s,J,h=>wd hK l h
 |(p, .nl _ _)::l,s,J,h=>wd hK l h
 |(p, .nf _)::l,s,J,h=>wd hK l h
theorem Shp.dec_ok{kp:List Bool}(hK:∀t,bt kp t=false->K t=false){h:Shp}{s:TS}{x:h.den}(hd:h.dec N kp s=some x){a:Act}{w:World}{J:Pl}(hr:dr U w0 J0 K N s a w J):∃J',dr U w0 J0 K N (h.enc x) a w J' :=by
 unfold Shp.dec at hd;obtain⟨hkp,hd⟩:=ai hd;obtain⟨J00,hr0⟩:=wd hK h.sl hr;obtain⟨J1,hr1⟩:∃J1,dr U w0 J0 K N (ju1 N kp h s) a w J1:=by
  unfold ju1;cases jyi h.hp with
  |true=>exact qoq hK s.H 0 hr0
  |false=>exact⟨J00,hr0⟩
 generalize hs1:ju1 N kp h s=s1 at*;generalize h.rho kp s1=ρ at*;unfold Shp.decR at hd;obtain⟨hok,hd⟩:=ai hd;split at hd
 ·rename_i xs hxs;split at hd
  ·rename_i y hy;cases hd;obtain⟨hcv,hHR⟩:=zc3 hK hr1.hr hok hkp hy;refine⟨pg ρ J1,hr1.defers,hr1.len,fun t ht=> ?_,hHR⟩;obtain⟨v,hv,hV⟩:=hr1.slot t ht;refine⟨v,hv,?_⟩;rcases jo2 h.sl xs hxs t with e|⟨sh,xi,e1,e2⟩
   ·show VR _ (bu (qiw h.sl xs) t) v;rw[e]
    trivial
   ·show VR _ (bu (qiw h.sl xs) t) v;rw[e2];exact Sh.dec_ok hcv sh _ xi e1 v hV
  ·cases hd
 ·cases hd
end
end Go.K
namespace Go.K
open Go.M Go.RowKit
inductive Ann where
 | z
 | s (n : Nat)
 | d (bv rs τ : List Nat)
 | one (a : Ann)
 | two (a b : Ann)
 | u (n : Nat) (a : Ann)
 | ad (bv rs : List Nat)
 | nm (sh : Shp) (a : Ann)
def Ann.l:Ann->Ann
 | .two a _=>a
 | .one a=>a
 |_=> .z
def Ann.r:Ann->Ann
 | .two _ b=>b
 |_=> .z
def Ann.sum:Ann->Option Nat
 | .s n=>some n
 |_=>none
def Ann.unr:Ann->Option (Nat×Ann)
 | .u n a=>some (n,a)
 | .nm _ (.u n a)=>some (n,a)
 |_=>none
def jrr:Code->List Bool->Code
 |c,[]=>c
 | .seq x _,false::p=>jrr x p
 | .seq _ y,true::p=>jrr y p
 | .cond _ x _,false::p=>jrr x p
 | .cond _ _ y,true::p=>jrr y p
 | .block _ x,_::p=>jrr x p
 | .loop x,_::p=>jrr x p
 |c,_=>c
def qba(f:Func):Code:=match f.body with|some c=>c|none=> .skip
section
variable {R Rf : Type}
def jrj:List St->List Nat
 |[]=>[]
 | .set t _::l=>t::jrj l
 |_::l=>jrj l
def j3z(X:Ctx Rf)(bv rs:List Nat)(recs:List En):List Oper->Nat->TS->List Nat
 |[],_,_=>[]
 |o::rest,i,s=>
  bif wu i rs then
   match qmb X o.op (fun x=>qo0 (zR bv i recs) (evT X.N s.S x)) (qx9 (zR bv i recs) s.H) (fun δ v=>some (jrj δ,(s.aps δ).put o.dst v))with
   |some (l,s')=>l++j3z X bv rs recs rest (i+1) s'
   |none=>j3z X bv rs recs rest (i+1) s
  else j3z X bv rs recs rest (i+1) s
def zfe(X:Ctx Rf)(ops:List Oper)(bv rs:List Nat)(s:TS):List Nat:=
 match jhm X ops bv rs [] ops 0 s.S s.H [] (fun S H recs=>some (j3z X bv rs recs ops 0 ⟨S,H⟩))with|some l=>l|none=>[]
def zbn(X:Ctx Rf)(ops:List Oper)(bv rs:List Nat)(s:TS)(k:TS->Option R):Option R:=
 match jx1 X ops bv rs [] s some with
 |some s' =>k s'
 |none=>jx1 X ops bv rs (zfe X ops bv rs s) s k
def zai(X:Ctx Rf)(l:List Oper)(draw:Bool)(a:Ann)(s:TS)(k:TS->Option R):Option R:=
 match draw with
 |false=>jlt X l l s k
 |true=>match a with| .d bv rs τ=>jx1 X l bv rs τ s k| .ad bv rs=>zbn X l bv rs s k|_=>none
def zae(N:Nat)(kp:List Bool)(a:Ann)(s:TS):Option TS:=
 match a with
 | .nm sh _=>match sh.dec N kp s with|some x=>some (sh.enc x)|none=>none
 |_=>some s
def j33(f:TS->(TS->Option R)->Option R):Nat->TS->Option R
 |0,_=>none
 |n+1,s=>f s (j33 f n)
def den(X:Ctx Rf):Code->Ann->TS->(TS->Option R)->(Nat->TS->Option R)->(Rf->Option R)->Option R
 |c,a,s,kn,ke,kr=>
  match a.sum with
  |some n=>
   match X.Λ n with
   |some J=>match J.dec s with|some x=>bnd (J.m x) (fun o=>J.cont x o kn ke kr)|none=>none
   |none=>none
  |none=>
   match c with
   | .skip=>kn s
   | .region _ ops d=>zai X ops.toList d a s kn
   | .seq x y=>den X x a.l s (fun s' =>den X y a.r s' kn ke kr) ke kr
   | .cond c x y=>match evT X.N s.S c with| .bool g=>bif g then den X x a.l s kn ke kr else den X y a.r s kn ke kr|_=>none
   | .block id x=>den X x a.l s kn (fun id' s' =>bif Nat.beq id' id then kn s' else ke id' s') kr
   | .loop x=>match a.unr with|some (n,b)=>(match zae X.N X.kp a s with|some s=>j33 (fun s k=>den X x b s k ke kr) n s|none=>none)|none=>none
   | .exit id=>ke id s
   | .ret=>match X.res s with|some r=>kr r|none=>none
   |_=>none
end
section
variable {U : Nat -> Prop} {w0 : World} {J0 : Pl} {K : Nat -> Bool} {N : Nat} {P : Program} {R Rf : Type}
def CW(P:Program)(U:Nat->Prop)(w0:World)(J0:Pl)(K:Nat->Bool)(N:Nat)(c:Code)(Q:Exit->TS->Prop)(s:TS):Prop:=
 ∀a w J,dr U w0 J0 K N s a w J->c.wp P (fun e a' w' =>∃s' J',dr U w0 J0 K N s' a' w' J' /\Q e s') a w
def jr1(X:Ctx Rf)(kn:TS->Option R)(ke:Nat->TS->Option R)(kr:Rf->Option R)(r:R):Exit->TS->Prop
 | .normal,s' =>kn s' =some r
 | .exit id,s' =>ke id s' =some r
 | .ret,s' =>∃x,X.res s' =some x/\kr x=some r
 |_,_=>False
def jcu(X:Ctx Rf)(K:Nat->Bool):Prop:=∀t,bt X.kp t=false->K t=false
def a8(P:Program)(X:Ctx Rf)(n:Nat)(c:Code):Prop:=
 ∀J,X.Λ n=some J->∀(U:Nat->Prop) (w0:World) (J0:Pl) (K:Nat->Bool),jcu X K->∀(R:Type) (s:TS) (x:J.A) (o:J.O) (kn:TS->Option R) (ke:Nat->TS->Option R) (kr:Rf->Option R) (r:R),
  J.dec s=some x->J.m x=some o->J.cont x o kn ke kr=some r->CW P U w0 J0 K X.N c (jr1 X kn ke kr r) s
def qw:Code->Ann->List (Nat×Code)
 |c,a=>
  match a.sum with
  |some n=>[(n,c)]
  |none=>
   match c with
   | .seq x y=>qw x a.l++qw y a.r
   | .cond _ x y=>qw x a.l++qw y a.r
   | .block _ x=>qw x a.l
   | .loop x=>match a.unr with|some (_,b)=>qw x b|none=>[]
   |_=>[]
theorem jlc{X:Ctx Rf}(hX:CtxOK P X)(hK:jcu X K){o:Oper}{s:TS}{k:TS->Option R}{r:R}(h:opT X o s k=some r){a:Act}{w:World}{J:Pl}(hr:dr U w0 J0 K X.N s a w J){Q:Exit->Act->World->Prop}{KK:Act->World->Prop}
  (hKK:∀s' a' w' J',dr U w0 J0 K X.N s' a' w' J' ->k s' =some r->KK a' w'):o.wp P a w KK Q:=by
 unfold opT at h;obtain⟨δ,v,hk,hdo⟩:=jcl (F:=fun _=>True) hX hr (HLe.refl s.H) hK (fun x _=>hr.ev x) (fun _ _ _ _ _ _=>trivial) h;exact hdo Q KK fun a' w' J' h' =>hKK _ a' w' J' h' hk
theorem jtr{X:Ctx Rf}(hX:CtxOK P X)(hK:jcu X K){all:List Oper}{k:TS->Option R}{r:R}{Q:Exit->Act->World->Prop}(hQ:∀s' a' w' J',dr U w0 J0 K X.N s' a' w' J' ->k s' =some r->Q .normal a' w'):
  ∀(l:List Oper) (s:TS) (a:Act) (w:World) (J:Pl),dr U w0 J0 K X.N s a w J->jlt X all l s k=some r->wpList P all.toArray Q l a w:=by
 intro l
 induction l with
 |nil=>intro s a w J hr h;exact hQ s a w J hr h
 |cons o rest ih=>
  intro s a w J hr h;unfold jlt j0h at h;split at h
  ·rename_i hg;exact HV hg fun K' hK' =>jlc hX hK h hr fun s' a' w' J' h' hk=>hK' _ _ (ih s' a' w' J' h' hk)
  ·rename_i g hg;obtain⟨S1,hext,hcase⟩:=qrh hg h;have hr1:dr U w0 J0 K X.N ⟨S1,s.H⟩ a w J:=dr.ext (s:=s) (s' :=⟨S1,s.H⟩) ⟨rfl,fun t=>(hext t).symm⟩ hr;refine wpList_step fun K' hK' => ?_
   rcases hcase with⟨hw,h1⟩|⟨hw,h1⟩
   ·rw[qcv hr hw];simp only[Kw];exact jlc hX hK h1 hr1 fun s' a' w' J' h' hk=>hK' _ _ (ih s' a' w' J' h' hk)
   ·rw[qcv hr hw];simp only[KP,KI];exact hK' _ _ (ih _ _ _ J (hr1.put o.dst (A:= .undef) (v:=undef) (by simp[VR])) h1)
theorem j3i{X:Ctx Rf}(hX:CtxOK P X)(hmix:P.follows .mixedOrders=true)(hK:jcu X K){id:Nat}{l:List Oper}{d:Bool}{an:Ann}{s:TS}{k:TS->Option R}{r:R}(h:zai X l d an s k=some r){Q:Exit->TS->Prop}(hQ:∀s',k s' =some r->Q .normal s'):
  CW P U w0 J0 K X.N (.region id l.toArray d) Q s:=by
 intro a w J hr;unfold zai at h;split at h
 ·refine wp_region_lit ?_;exact jtr hX hK (fun s' a' w' J' h' hk=>⟨s',J',h',hQ s' hk⟩) l s a w J hr h
 ·split at h
  ·exact jkg hX hmix hK h (fun s' a' w' J' h' hk=>⟨s',J',h',hQ s' hk⟩) hr
  ·unfold zbn at h;split at h
   ·rename_i s1 h1;exact jkg hX hmix hK h1 (fun s' a' w' J' h' hk=>by cases hk;exact⟨_,J',h',hQ _ h⟩) hr
   ·exact jkg hX hmix hK h (fun s' a' w' J' h' hk=>⟨s',J',h',hQ s' hk⟩) hr
  ·cases h
theorem CW.mono{c:Code}{Q Q' :Exit->TS->Prop}{s:TS}(hq:∀e s,Q e s->Q' e s)(h:CW P U w0 J0 K N c Q s):CW P U w0 J0 K N c Q' s:=
 fun a w J hr=>K0 (fun _ _ _ ⟨s',J',h1,h2⟩=>⟨s',J',h1,hq _ _ h2⟩) (h a w J hr)
theorem CW.loop{ι:Type}{body:Code}{Q:Exit->TS->Prop}(I:ι->TS)(ok:ι->Prop)(μ:ι->Nat)
  (round:∀i,ok i->∀a w J,dr U w0 J0 K N (I i) a w J->body.wp P (fun e a' w' =>match e with| .normal=>∃j J',ok j/\μ j<μ i/\dr U w0 J0 K N (I j) a' w' J' |e=>∃s' J',dr U w0 J0 K N s' a' w' J' /\Q e s') a w):
  ∀i0,ok i0->CW P U w0 J0 K N (.loop body) Q (I i0):=by
 intro i0 h0 a w J hr
 suffices H:∀n i a w J,ok i->μ i=n->dr U w0 J0 K N (I i) a w J->∀b k cs,∃e a' w',(∃s' J',dr U w0 J0 K N s' a' w' J' /\Q e s')/\Arrives P (lone (b.at a (.code body:: .inLoop body::k)) cs w) b k cs e a' w' by
  intro b k cs;obtain⟨e,a',w',hq,harr⟩:=H (μ i0) i0 a w J h0 rfl hr b k cs;exact⟨e,a',w',hq, .of_steps (.one step_loop) harr⟩
 intro n
 induction n using Nat.strongRecOn with
 |_ n ih=>
  intro i a w J hok hn hrel b k cs;obtain⟨e,a₁,w₁,hq,harr⟩:=round i hok a w J hrel b (.inLoop body::k) cs;cases e with
  |normal=>
   obtain⟨j,J2,hj,hlt,hr2⟩:=hq;obtain⟨e,a',w',hq',harr'⟩:=ih (μ j) (hn▸hlt) j a₁ w₁ J2 hj rfl hr2 b k cs;exact⟨e,a',w',hq', .of_steps (Steps.trans harr (.one step_inLoop)) harr'⟩
  |exit id=>exact⟨_,a₁,w₁,hq,fun k' hk=>harr k' (by simpa[exitTo]using hk)⟩
  |goto l=>exact⟨_,a₁,w₁,hq,fun k' hk=>harr k' (by simpa[gotoIn]using hk)⟩
  |ret=>exact⟨_,a₁,w₁,hq,harr⟩
  |panic chain=>exact⟨_,a₁,w₁,hq,harr⟩
  |outgrown=>exact⟨_,a₁,w₁,hq,harr⟩
theorem zaf{X:Ctx Rf}(hK:jcu X K){a:Ann}{s s' :TS}(h:zae X.N X.kp a s=some s'){c:Code}{Q:Exit->TS->Prop}(hc:CW P U w0 J0 K X.N c Q s'):CW P U w0 J0 K X.N c Q s:=by
 unfold zae at h;split at h
 ·split at h
  ·rename_i x hx;cases h;intro a1 w1 J1 hr;obtain⟨J2,hr2⟩:=Shp.dec_ok hK hx hr;exact hc a1 w1 J2 hr2
  ·cases h
 ·cases h;exact hc
theorem q3h{α β:Type}{m:Option α}{f:α->Option β}{r:β}(h:bnd m f=some r):∃x,m=some x/\f x=some r:=by
 cases m with
 |none=>cases h
 |some x=>exact⟨x,rfl,h⟩
theorem jdb{X:Ctx Rf}(hX:CtxOK P X)(hmix:P.follows .mixedOrders=true)(hK:jcu X K){r:R}:∀(c:Code) (a:Ann) (s:TS) (kn:TS->Option R) (ke:Nat->TS->Option R) (kr:Rf->Option R),
  (∀p∈qw c a,a8 P X p.1 p.2)->den X c a s kn ke kr=some r->CW P U w0 J0 K X.N c (jr1 X kn ke kr r) s:=by
 intro c
 induction c with
 |skip=>
  intro a s kn ke kr hs h;unfold den at h;split at h
  ·rename_i n hn;exact summ hs hn h
  ·exact fun a w J hr=>wp_skip ⟨s,J,hr,h⟩
 |region id ops d=>
  intro a s kn ke kr hs h;unfold den at h;split at h
  ·rename_i n hn;exact summ hs hn h
  ·have:=j3i (id:=id) (U:=U) (w0:=w0) (J0:=J0) hX hmix hK h (Q:=jr1 X kn ke kr r) (fun s' hk=>hk);simpa using this
 |seq x y ihx ihy=>
  intro a s kn ke kr hs h;unfold den at h;split at h
  ·rename_i n hn;exact summ hs hn h
  ·rename_i hn;have hsum:qw (.seq x y) a=qw x a.l++qw y a.r:=by conv=>lhs;unfold qw;simp only[hn]
   rw[hsum]at hs;have hx:=ihx a.l s _ ke kr (fun p hp=>hs p (Kh _ hp)) h;intro a1 w1 J1 hr;refine wp_seq (K0 ?_ (hx a1 w1 J1 hr));rintro e a' w' ⟨s',J',h1,h2⟩;cases e with
   |normal=>exact ihy a.r s' kn ke kr (fun p hp=>hs p (Ke _ hp)) h2 a' w' J' h1
   |exit id=>exact⟨s',J',h1,h2⟩
   |ret=>exact⟨s',J',h1,h2⟩
   |_=>exact h2.elim
 |cond c x y ihx ihy=>
  intro a s kn ke kr hs h;unfold den at h;split at h
  ·rename_i n hn;exact summ hs hn h
  ·rename_i hn;have hsum:qw (.cond c x y) a=qw x a.l++qw y a.r:=by conv=>lhs;unfold qw;simp only[hn]
   rw[hsum]at hs;simp only[]at h;split at h
   ·rename_i g hg;intro a1 w1 J1 hr;have hv:=hr.ev c;rw[hg]at hv;simp only[VR]at hv;refine wp_cond_split hv (fun hb=> ?_) (fun hb=> ?_)
    ·subst hb;exact ihx a.l s kn ke kr (fun p hp=>hs p (Kh _ hp)) h a1 w1 J1 hr
    ·subst hb;exact ihy a.r s kn ke kr (fun p hp=>hs p (Ke _ hp)) h a1 w1 J1 hr
   ·cases h
 |block id x ih=>
  intro a s kn ke kr hs h;unfold den at h;split at h
  ·rename_i n hn;exact summ hs hn h
  ·rename_i hn;have hsum:qw (.block id x) a=qw x a.l:=by conv=>lhs;unfold qw;simp only[hn]
   rw[hsum]at hs;have hx:=ih a.l s _ _ kr hs h;intro a1 w1 J1 hr;refine wp_block (K0 ?_ (hx a1 w1 J1 hr));rintro e a' w' ⟨s',J',h1,hp⟩;cases e with
   |normal=>exact⟨s',J',h1,hp⟩
   |exit id' =>
    have hk:(bif Nat.beq id' id then kn s' else ke id' s')=some r:=hp;simp only[Exit.inBlock];by_cases he:id' =id
    ·subst he;rw[if_pos rfl];simp only[W5,WQ]at hk;exact⟨s',J',h1,hk⟩
    ·rw[if_neg he];rw[qnf he]at hk;exact⟨s',J',h1,hk⟩
   |ret=>exact⟨s',J',h1,hp⟩
   |_=>exact hp.elim
 |exit id=>
  intro a s kn ke kr hs h;unfold den at h;split at h
  ·rename_i n hn;exact summ hs hn h
  ·exact fun a w J hr=>wp_exit ⟨s,J,hr,h⟩
 |ret=>
  intro a s kn ke kr hs h;unfold den at h;split at h
  ·rename_i n hn;exact summ hs hn h
  ·simp only[]at h;split at h
   ·rename_i x hx;exact fun a w J hr=>wp_ret ⟨s,J,hr,x,hx,h⟩
   ·cases h
 |loop x ih=>
  intro a s kn ke kr hs h;unfold den at h;split at h
  ·rename_i n hn;exact summ hs hn h
  ·rename_i hn;cases hu:a.unr with
   |none=>rw[hu]at h;cases h
   |some p=>
    obtain⟨n,b⟩:=p;rw[hu]at h;have hsum:qw (.loop x) a=qw x b:=by conv=>lhs;unfold qw;simp only[hn,hu]
    rw[hsum]at hs;simp only at h;split at h
    case h_2=>cases h
    rename_i s0 hs0;refine zaf hK hs0 ?_;refine CW.loop (ι:=Nat×TS) (fun p=>p.2) (fun p=>j33 (fun s k=>den X x b s k ke kr) p.1 p.2=some r) (fun p=>p.1) ?_ (n,s0) h;rintro⟨m,s1⟩ hm a1 w1 J1 hr;cases m with
    |zero=>cases hm
    |succ m=>
     have hx:=ih b s1 (j33 (fun s k=>den X x b s k ke kr) m) ke kr hs hm a1 w1 J1 hr;refine K0 ?_ hx;rintro e a' w' ⟨s',J',h1,h2⟩;cases e with
     |normal=>exact⟨(m,s'),J',h2,Hl m,h1⟩
     |exit id=>exact⟨s',J',h1,h2⟩
     |ret=>exact⟨s',J',h1,h2⟩
     |_=>exact h2.elim
 |_=>
  intro a s kn ke kr hs h;unfold den at h;split at h
  ·rename_i n hn;exact summ hs hn h
  ·cases h
 where
 summ {c:Code} {a:Ann} {s:TS} {kn:TS->Option R} {ke:Nat->TS->Option R} {kr:Rf->Option R} {n:Nat} (hs:∀p∈qw c a,a8 P X p.1 p.2) (hn:a.sum=some n)
   (h:(match X.Λ n with|some J=>(match J.dec s with|some x=>bnd (J.m x) (fun o=>J.cont x o kn ke kr)|none=>none)|none=>none)=some r):CW P U w0 J0 K X.N c (jr1 X kn ke kr r) s:=by
  have hm:(n,c)∈qw c a:=by
   unfold qw;simp[hn]
  split at h
  ·rename_i J hJ;split at h
   ·rename_i x hx;obtain⟨o,ho,hc⟩:=q3h h;exact hs (n,c) hm J hJ U w0 J0 K hK R s x o kn ke kr r hx ho hc
   ·cases h
  ·cases h
end
end Go.K
namespace Go.K
open Go.M Go.RowKit
section
variable {P : Program} {Rf : Type}
noncomputable def au(Rf:Type)(N:Nat)(kp:List Bool)(shI:Shp){C S:Type}(un:shI.den->C×S)(shE:Shp){CE E:Type}(mkE:CE->E->shE.den)(pE:C->CE)
  (stepK:{R:Type}->C->S->(S->Option R)->(E->Option R)->(Rf->Option R)->Option R):Summ Rf where
 A:=C×S
 O:=E⊕Rf
 dec:=fun s=>match shI.dec N kp s with|some x=>some (un x)|none=>none
 m:=fun x=>b9 (fun a=>stepK x.1 a (fun a' =>some (.next a')) (fun e=>some (.done e)) (fun r=>some (.ret r))) x.2
 cont:=fun x o kn _ kr=>lk o (fun e=>kn (shE.enc (mkE (pE x.1) e))) kr
variable {U : Nat -> Prop} {w0 : World} {J0 : Pl} {K : Nat -> Bool} {N : Nat}
theorem j2x{X:Ctx Rf}(hX:CtxOK P X)(hmix:P.follows .mixedOrders=true){n id:Nat}{body:Code}{ann:Ann}(hs:∀p∈qw body ann,a8 P X p.1 p.2)
  {shI shE:Shp} {C S CE E:Type} {un:shI.den->C×S} {mk:C->S->shI.den} {unE:shE.den->CE×E} {mkE:CE->E->shE.den} {pE:C->CE}
  {stepK:{R:Type}->C->S->(S->Option R)->(E->Option R)->(Rf->Option R)->Option R}
  (hΛ:X.Λ n=some (au Rf X.N X.kp shI un shE mkE pE stepK)) (hmk:∀x,mk (un x).1 (un x).2=x) (hmkE:∀y,mkE (unE y).1 (unE y).2=y)
  (hpar:∀(R:Type) (K:C->S->Option R) (D:CE->E->Option R) (T:Rf->Option R) (c:C) (a:S),
   den X body ann (shI.enc (mk c a)) (fun s' =>match shI.dec X.N X.kp s' with|some x=>K (un x).1 (un x).2|none=>none)
    (fun id' s' =>bif Nat.beq id' id then(match shE.dec X.N X.kp s' with|some y=>D (unE y).1 (unE y).2|none=>none)else none) T=stepK c a (K c) (D (pE c)) T):
  a8 P X n (.block id (.loop body)):=by
 intro J hJ;rw[hΛ]at hJ;cases hJ;intro U w0 J0 K hK R s x o kn ke kr r hdec hm hcont;obtain⟨c,a0⟩:=x;simp only[au]at hdec hm hcont;cases hx:shI.dec X.N X.kp s with
 |none=>rw[hx]at hdec;cases hdec
 |some x=>
  rw[hx]at hdec;simp only[Wb]at hdec;have hxe:x=mk c a0:=by
   have e:=hmk x;rw[hdec]at e;exact e.symm
  intro av w J hr;obtain⟨J1,hr1⟩:=Shp.dec_ok hK hx hr;rw[hxe]at hr1;have hround:∀p:Nat×S,xh (fun a=>stepK c a (fun a' =>some (.next a')) (fun e=>some (.done e)) (fun r=>some (.ret r))) p.1 p.2=some o->∀a w J,dr U w0 J0 K X.N (shI.enc (mk c p.2)) a w J->
    body.wp P (fun e a' w' =>match e with
     | .normal=>∃(j:Nat×S) (J' :Pl),xh (fun a=>stepK c a (fun a' =>some (.next a')) (fun e=>some (.done e)) (fun r=>some (.ret r))) j.1 j.2=some o/\j.1<p.1/\dr U w0 J0 K X.N (shI.enc (mk c j.2)) a' w' J'
     |e=>∃s' J',dr U w0 J0 K X.N s' a' w' J' /\(match e with| .exit id' =>id' =id/\kn s' =some r| .ret=>∃x,X.res s' =some x/\kr x=some r|_=>False)) a w:=by
   rintro⟨k,a⟩ hp aa ww JJ hrel;cases k with
   |zero=>cases hp
   |succ k=>
    simp only[ce]at hp;obtain⟨xv,hstep,hlr⟩:=q3h hp
    classical
    let K1:C->S->Option (LR S E Rf):=fun c' a' =>if c' =c then some (.next a')else none
    let D1:CE->E->Option (LR S E Rf):=fun c' e=>if c' =pE c then some (.done e)else none
    have hden:=hpar (LR S E Rf) K1 D1 (fun r=>some (.ret r)) c a;have e1:K1 c=fun a' =>some (.next a'):=by funext a';simp[K1]
    have e2:D1 (pE c)=fun e=>some (.done e):=by funext e;simp[D1]
    rw[e1,e2]at hden;rw[hstep]at hden;refine K0 ?_ (jdb hX hmix hK body ann _ _ _ _ hs hden aa ww JJ hrel);rintro e a' w' ⟨s',J',h1,hpost⟩;cases e with
    |normal=>
     have hk:(match shI.dec X.N X.kp s' with|some x=>K1 (un x).1 (un x).2|none=>none)=some xv:=hpost;cases hx' :shI.dec X.N X.kp s' with
     |none=>rw[hx']at hk;cases hk
     |some x' =>
      rw[hx']at hk;simp only[K1]at hk;split at hk
      ·rename_i hc;cases hk;obtain⟨J2,hr2⟩:=Shp.dec_ok hK hx' h1;refine⟨(k,(un x').2),J2,hlr,Hl k,?_⟩;have e:=hmk x';rw[hc]at e;rw[e];exact hr2
      ·cases hk
    |exit id' =>
     have hk1:(bif Nat.beq id' id then(match shE.dec X.N X.kp s' with|some y=>D1 (unE y).1 (unE y).2|none=>none)else none)=some xv:=hpost;have hid:=(ai hk1).1;have hk:=(ai hk1).2;have hid' :=ax hid;cases hx' :shE.dec X.N X.kp s' with
     |none=>rw[hx']at hk;cases hk
     |some y=>
      rw[hx']at hk;simp only[D1]at hk;split at hk
      ·rename_i hc;cases hk;cases hlr;obtain⟨J2,hr2⟩:=Shp.dec_ok hK hx' h1;refine⟨shE.enc (mkE (pE c) (unE y).2),J2,?_,hid',hcont⟩;have e:=hmkE y;rw[hc]at e;rw[e];exact hr2
      ·cases hk
    |ret=>
     obtain⟨x',hres,hk⟩:=hpost;cases hk;cases hlr;exact⟨s',J',h1,x',hres,hcont⟩
    |_=>exact hpost.elim
  have hloop:=CW.loop (P:=P) (Q:=fun e s' =>match e with| .exit id' =>id' =id/\kn s' =some r| .ret=>∃x,X.res s' =some x/\kr x=some r|_=>False) (fun p:Nat×S=>shI.enc (mk c p.2)) (fun p=>xh (fun a=>stepK c a (fun a' =>some (.next a')) (fun e=>some (.done e)) (fun r=>some (.ret r))) p.1 p.2=some o) (fun p=>p.1) hround (many,a0) hm;refine wp_block (K0 ?_ (hloop av w J1 hr1));rintro e a' w' ⟨s',J',h1,h2⟩;cases e with
  |normal=>exact h2.elim
  |exit id' =>
   obtain⟨rfl,hk⟩:=h2;simp only[Exit.inBlock,Kw];exact⟨s',J',h1,hk⟩
  |ret=>exact⟨s',J',h1,h2⟩
  |_=>exact h2.elim
noncomputable def qkk(Rf:Type)(N:Nat)(kp:List Bool)(shI:Shp){A:Type}(un:shI.den->A)(shE:Shp){CE E:Type}(mkE:CE->E->shE.den)(pE:A->CE)
  (stepK:{R:Type}->A->(E->Option R)->(Rf->Option R)->Option R):Summ Rf where
 A:=A
 O:=E⊕Rf
 dec:=fun s=>match shI.dec N kp s with|some x=>some (un x)|none=>none
 m:=fun x=>stepK x (fun e=>some (.inl e)) (fun r=>some (.inr r))
 cont:=fun x o kn _ kr=>lk o (fun e=>kn (shE.enc (mkE (pE x) e))) kr
theorem j2k{X:Ctx Rf}(hX:CtxOK P X)(hmix:P.follows .mixedOrders=true){n:Nat}{c:Code}{ann:Ann}(hs:∀p∈qw c ann,a8 P X p.1 p.2)
  {shI shE:Shp} {A CE E:Type} {un:shI.den->A} {mk:A->shI.den} {unE:shE.den->CE×E} {mkE:CE->E->shE.den} {pE:A->CE}
  {stepK:{R:Type}->A->(E->Option R)->(Rf->Option R)->Option R}
  (hΛ:X.Λ n=some (qkk Rf X.N X.kp shI un shE mkE pE stepK)) (hmk:∀x,mk (un x)=x) (hmkE:∀y,mkE (unE y).1 (unE y).2=y)
  (hpar:∀(R:Type) (D:CE->E->Option R) (T:Rf->Option R) (a:A),
   den X c ann (shI.enc (mk a)) (fun s' =>match shE.dec X.N X.kp s' with|some y=>D (unE y).1 (unE y).2|none=>none) (fun _ _=>none) T=stepK a (D (pE a)) T):
  a8 P X n c:=by
 intro J hJ;rw[hΛ]at hJ;cases hJ;intro U w0 J0 K hK R s (a:A) o kn ke kr r hdec hm hcont;simp only[qkk]at hdec hm hcont;cases hx:shI.dec X.N X.kp s with
 |none=>rw[hx]at hdec;cases hdec
 |some x=>
  rw[hx]at hdec;simp only[Wb]at hdec;intro av w J hr;obtain⟨J1,hr1⟩:=Shp.dec_ok hK hx hr;have hxe:x=mk a:=by
   have e:=hmk x;rw[hdec]at e;exact e.symm
  rw[hxe]at hr1
  classical
  let D:CE->E->Option (E⊕Rf):=fun c' e=>if c' =pE a then some (.inl e)else none
  have hden:=hpar (E⊕Rf) D (fun r=>some (.inr r)) a;have e2:D (pE a)=fun e=>some (.inl e):=by funext e;simp[D]
  rw[e2,hm]at hden;refine K0 ?_ (jdb hX hmix hK c ann _ _ _ _ hs hden av w J1 hr1);rintro e a' w' ⟨s',J',h1,hpost⟩;cases e with
  |normal=>
   have hk:(match shE.dec X.N X.kp s' with|some y=>D (unE y).1 (unE y).2|none=>none)=some o:=hpost;cases hx' :shE.dec X.N X.kp s' with
   |none=>rw[hx']at hk;cases hk
   |some y=>
    rw[hx']at hk;simp only[D]at hk;split at hk
    ·rename_i hc;cases hk;obtain⟨J2,hr2⟩:=Shp.dec_ok hK hx' h1;refine⟨shE.enc (mkE (pE a) (unE y).2),J2,?_,hcont⟩;have e:=hmkE y;rw[hc]at e;rw[e];exact hr2
    ·cases hk
  |exit id' =>cases hpost
  |ret=>
   obtain⟨x',hres,hk⟩:=hpost;cases hk;exact⟨s',J',h1,x',hres,hcont⟩
  |_=>exact hpost.elim
end
end Go.K
namespace Go.K
open Go.M Go.RowKit
def jzy(N:Nat)(tt:TT)(s:TS):ResultVar->Option TV
 | .tmp t=>some (rd N s.S t)
 | .cell a t=>match jdv tt s.H t (rd N s.S a)with|some ([],v)=>some v|_=>none
def jab(N:Nat)(tt:TT)(s:TS):List ResultVar->Option (List TV)
 |[]=>some []
 |r::rs=>
  match jzy N tt s r with
  |some v=>match jab N tt s rs with|some l=>some (v::l)|none=>none
  |none=>none
def qmh:Nat->List TV->List (Nat×TV)
 |_,[]=>[]
 |k,v::l=>(k,v)::qmh (k+1) l
def jow(N:Nat)(tt:TT)(kp:List Bool)(rs:List ResultVar)(sh:Shp)(s:TS):Option sh.den:=
 match jab N tt s rs with
 |some vs=>sh.dec vs.length kp ⟨qmh 0 vs,s.H⟩
 |none=>none
def bx(N:Nat)(tt:TT)(kp:List Bool)(rs:List ResultVar)(sh:Shp){B:Type}(un:sh.den->B)(s:TS):Option B:=
 match jow N tt kp rs sh s with
 |some b=>some (un b)
 |none=>none
def jiy(N:Nat)(tt:TT)(kp:List Bool)(rs:List ResultVar)(sh1 sh2:Shp){B1 B2:Type}(un1:sh1.den->B1)(un2:sh2.den->B2)(s:TS):Option (B1⊕B2):=
 match jow N tt kp rs sh1 s with
 |some b=>some (.inl (un1 b))
 |none=>match jow N tt kp rs sh2 s with|some b=>some (.inr (un2 b))|none=>none
def ju9(S:List (Nat×TV)):Nat->Nat->List TV
 |_,0=>[]
 |j,k+1=>bu S j::ju9 S (j+1) k
def jlr(k:Nat)(S:List (Nat×TV)):TV:=
 match ju9 S 0 k with
 |[v]=>v
 |l=> .tup l
def j1f(l:ShL)(objs:List Hs)(args:List TV)(H:List TOb):Rho:=jsw H 0 objs (l.fnd args (List.replicate objs.length none))
def j4a:Rho->Option (List Nat)
 |[]=>some []
 |some t::l=>match j4a l with|some r=>some (t::r)|none=>none
 |none::_=>none
def jn0(l:ShL)(objs:List Hs)(kp:List Bool){B:Type}(res:B->TV)(outs:B->List TOb)(cs:{R:Type}->B->(B->Option R)->Option R)(csn:∀{R R' :Type} (b:B) (k:B->Option R) (f:R->Option R'),cs b (fun b=>(k b).bind f)=(cs b k).bind f)(m:l.den×na objs->Option B):Mdl where
 A:=l.den×na objs
 B:=B
 dec:=fun args H=>
  match j4a (j1f l objs args H)with
  |some ρ=>
   bif qxa (ρ.map some)then
    match l.dec true (ρ.map some) H args with
    |some x=>match qsu true (ρ.map some) H (ρ.map some) objs with|some y=>some ((x,y),ρ,[])|none=>none
    |none=>none
   else none
  |none=>none
 args:=fun a=>l.enc a.1
 objs:=fun a=>du objs a.2
 m:=m
 res:=fun _ b=>res b
 outs:=fun _ b=>outs b
 kp:=kp
 cs:=cs
 csn:=csn
noncomputable def ar(l:ShL)(objs:List Hs)(kp:List Bool)(k:Nat)(sh:Shp){B:Type}(mk:B->sh.den)(m:l.den×na objs->Option B):Mdl:=
 jn0 l objs kp (fun b=>jlr k (qiw sh.sl (mk b).1)) (fun b=>du sh.hp (mk b).2) (fun b k=>k b) (fun _ _ _=>rfl) m
def jwi{B1 B2 R:Type}(b:B1⊕B2)(f:B1->R)(g:B2->R):R:=match b with| .inl x=>f x| .inr y=>g y
noncomputable def jk4(l:ShL)(objs:List Hs)(kp:List Bool)(k:Nat)(sh1 sh2:Shp){B1 B2:Type}(mk1:B1->sh1.den)(mk2:B2->sh2.den)(m:l.den×na objs->Option (B1⊕B2)):Mdl:=
 jn0 l objs kp (fun b=>jwi b (fun x=>jlr k (qiw sh1.sl (mk1 x).1)) fun y=>jlr k (qiw sh2.sl (mk2 y).1)) (fun b=>jwi b (fun x=>du sh1.hp (mk1 x).2) fun y=>du sh2.hp (mk2 y).2)
  (fun b k=>jwi b (fun x=>k (.inl x)) fun y=>k (.inr y)) (fun b _ _=>by cases b<;>rfl) m
mutual
def Sh.frB:Sh->Bool
 | .d fr t=>fr||t.flat
 | .rp fr _=>fr
 | .own _=>true
 | .kid _ _=>true
 | .ptr _=>true
 | .mp _=>true
 | .dm fr _ _=>fr
 | .it=>true
 | .e=>true
 | .fn _ l=>l.frB
 | .agg l=>l.frB
 | .nl _ s=>s.frB
 | .nf s=>s.frB
def ShL.frB:ShL->Bool
 | .nil=>true
 | .cons s l=>s.frB&&l.frB
end
def Hs.frB:Hs->Bool
 | .arr _ (.fz fr) _ t=>fr||t.flat
 | .arr _ _ _ _=>true
 | .cs _ _ _ l=>l.frB
 | .mp _ _=>true
 | .mo _ _ _=>true
def jty:List (Nat×Sh)->Bool
 |[]=>true
 |p::l=>p.2.frB&&jty l
def jsx:List Hs->Bool
 |[]=>true
 |p::l=>p.frB&&jsx l
def Shp.frB(h:Shp):Bool:=jty h.sl&&jsx h.hp
theorem qyg:∀{l:List TV},(∀A∈l,A.fresh=true)->TV.freshL l=true
 |[],_=>rfl
 |A::l,h=>by simp only[TV.freshL,h A Wf,qyg fun B hB=>h B (We _ hB),KT]
theorem jry{fr:Bool}:∀{t:Ty} (x:t.den),(fr||t.flat)=true->(jgb fr t x).fresh=true
 | .int _,_,_=>rfl
 | .bool,_,_=>rfl
 | .str,_,_=>rfl
 | .slice t,xs,h=>by simpa[jgb,TV.fresh,Ty.flat]using h
 | .struct l,x,h=>by
  simp only[jgb,TV.fresh];refine qyg fun A hA=> ?_
  cases fr with
  |true=>exact q1h (TyL.cells_form true l x A hA)
  |false=>exact TyL.flat_cells false l x (by simpa[Ty.flat]using h) A hA
 | .tree l m,x,h=>by
  simp only[jgb,TV.fresh];refine qyg fun A hA=> ?_
  cases fr with
  |true=>exact q1h (Ty.cells_form true (.tree l m) x A hA)
  |false=>simp[Ty.flat]at h
mutual
theorem Sh.enc_fresh:∀(s:Sh) (x:s.den),s.frB=true->(s.enc x).fresh=true
 | .d fr t,x,h=>jry x h
 | .rp fr t,x,h=>h
 | .own _,_,_=>rfl
 | .kid _ _,_,_=>rfl
 | .ptr _,_,_=>rfl
 | .mp _,_,_=>rfl
 | .dm _ _ _,_,h=>h
 | .it,_,_=>rfl
 | .e,_,_=>rfl
 | .fn f l,x,h=>ShL.enc_fresh l x h
 | .agg l,x,h=>ShL.enc_fresh l x h
 | .nl _ s,x,h=>Sh.enc_fresh s x h
 | .nf s,x,h=>Sh.enc_fresh s x.2 h
theorem ShL.enc_fresh:∀(l:ShL) (x:l.den),l.frB=true->TV.freshL (l.enc x)=true
 | .nil,_,_=>rfl
 | .cons s l,x,h=>by
  simp only[ShL.frB,Wc]at h;simp only[ShL.enc,TV.freshL,Sh.enc_fresh s x.1 h.1,ShL.enc_fresh l x.2 h.2,KT]
end
theorem Hs.enc_fresh:∀(h:Hs) (x:h.den),h.frB=true->(h.enc x).fresh=true
 | .arr _ (.fz _) _ _,_,h=>h
 | .arr _ .own _ _,_,_=>rfl
 | .arr _ (.hole _ _) _ _,_,_=>rfl
 | .arr _ (.swap _ _) _ _,_,_=>rfl
 | .cs _ _ _ l,x,h=>ShL.enc_fresh l x h
 | .mp _ _,_,_=>rfl
 | .mo _ _ _,_,_=>rfl
theorem qvy:∀(l:List Hs) (x:na l),jsx l=true->qkb (du l x)=true
 |[],_,_=>rfl
 |p::l,x,h=>by
  simp only[jsx,Wc]at h;simp only[du,qkb,Hs.enc_fresh p x.1 h.1,qvy l x.2 h.2,KT]
theorem qxf:∀(l:List (Nat×Sh)) (x:jfr l),jty l=true->∀t,(bu (qiw l x) t).fresh=true
 |[],_,_,t=>rfl
 |p::l,x,h,t=>by
  simp only[jty,Wc]at h;simp only[qiw,q7];split
  ·exact Sh.enc_fresh p.2 x.1 h.1
  ·exact qxf l x.2 h.2 t
theorem jfm{S:List (Nat×TV)}(h:∀t,(bu S t).fresh=true)(k:Nat):(jlr k S).fresh=true:=by
 have:∀k j,∀A∈ju9 S j k,A.fresh=true:=by
  intro k
  induction k with
  |zero=>intro j A hA;simp[ju9]at hA
  |succ k ih=>
   intro j A hA;rcases Wr.1 hA with rfl|hA
   ·exact h j
   ·exact ih _ A hA
 have h1:=this k 0;unfold jlr;split
 ·rename_i v e;exact h1 v (by rw[e];exact Wf)
 ·exact qyg h1
end Go.K
namespace Go.K
open Go.M Go.RowKit
section
variable {U : Nat -> Prop} {w0 : World} {J0 : Pl} {K : Nat -> Bool} {N : Nat} {P : Program} {tt : TT}
def j3j(tmps:Array Value):ResultVar->Sem Value
 | .tmp t=>pure (tmps.getD t undef)
 | .cell ad t=>do loadVar t (<-asAddr (tmps.getD ad undef))
theorem jum{H:List TOb}{t:TypeId}{A:TV}{r:List Bool×TV}(h:jdv tt H t A=some r){G:Gr}{v:Value}(hv:VR G A v):∃ad,v= .pointer (some ad):=by
 unfold jdv at h;split at h
 ·cases h
 ·split at h
  ·obtain⟨g,o,n,sz,_,_,rfl⟩:=hv;exact⟨_,rfl⟩
  ·obtain⟨g,o,n,sz,_,_,rfl⟩:=hv;exact⟨_,rfl⟩
  ·obtain⟨b,o,rfl,_⟩:=hv;exact⟨_,rfl⟩
  ·cases h
theorem jox(hF:dq P tt){s:TS}{a:Act}{w:World}{J:Pl}(h:dr U w0 J0 K N s a w J):∀(rs:List ResultVar) (l:List TV),jab N tt s rs=some l->
  ∃vs:List Value,(rs.mapM (j3j a.tmps)).run P w= .ok vs w/\gf (gr U (vw s.H) w J) l vs
 |[],l,hl=>by
  simp only[jab,Wb]at hl;subst hl;exact⟨[],by simp,rfl⟩
 |r::rs,l,hl=>by
  unfold jab at hl;split at hl
  ·rename_i v hv;split at hl
   ·rename_i m hm;cases hl;obtain⟨vs,hrun,hvs⟩:=jox hF h rs m hm;cases r with
    |tmp t=>
     simp only[jzy,Wb]at hv;subst hv;refine⟨a.tmps.getD t undef::vs,by simp only[List.mapM_cons,j3j,WJ,WU,Wy,hrun],_,vs,rfl,h.ev (.tmp t),hvs⟩
    |cell ad t=>
     simp only[jzy]at hv;split at hv
     ·rename_i v0 hload;cases hv;have hev:VR (gr U (vw s.H) w J) (rd N s.S ad) (a.tmps.getD ad undef):=h.ev (.tmp ad);obtain⟨adr,hadr⟩:=jum hload hev;obtain⟨u,hu,hV⟩:=qv1 (P:=P) hF h.hr.sees hev hload gb.nil;rw[hadr]at hu;simp only[Instr.loadAt,Instr.sureAddr,K7]at hu;have hu' :(loadVar t adr).run P w= .ok u w:=hu;refine⟨u::vs,?_,u,vs,rfl,hV,hvs⟩;simp only[List.mapM_cons,j3j,hadr,asAddr,K7,WJ,hu',Wy,hrun,WU]
     ·cases hv
   ·cases hl
  ·cases hl
theorem q7i:∀(l:List TV) (k t:Nat),bu (qmh k l) t=if k<=t then l.getD (t-k) .any else .any
 |[],k,t=>by simp[qmh,bu]
 |v::l,k,t=>by
  simp only[qmh,q7,q7i l (k+1) t];by_cases h:k=t
  ·subst h;simp
  ·rw[if_neg h];by_cases h1:k<=t
   ·rw[if_pos (by omega),if_pos h1,show t-k=(t-(k+1))+1 by omega];simp
   ·rw[if_neg (by omega),if_neg h1]
theorem jnn{G:Gr}{S:List (Nat×TV)}:∀(vs:List Value) (j:Nat),(∀i v,vs[i]? =some v->VR G (bu S (j+i)) v)->gf G (ju9 S j vs.length) vs
 |[],j,_=>rfl
 |v::vs,j,h=>⟨v,vs,rfl,by simpa using h 0 v rfl,jnn vs (j+1) fun i u hi=>by rw[show j+1+i=j+(i+1) by omega];exact h (i+1) u (by simpa using hi)⟩
theorem j3k{G:Gr}{S:List (Nat×TV)}{vs:List Value}(h:gf G (ju9 S 0 vs.length) vs):VR G (jlr vs.length S) (if h:vs.toArray.size=1 then vs.toArray[0]else .tuple vs.toArray):=by
 unfold jlr
 match vs,h with
 |[],h=>exact⟨[],by simp,h⟩
 |[v],h=>
  obtain⟨u,r,e,h1,h2⟩:=h;simp only[List.cons.injEq]at e;obtain⟨rfl,_⟩:=e;rw[dif_pos (by simp)];exact h1
 |v::v2::vs,h=>
  rw[dif_neg (by simp)];exact⟨_,rfl,h⟩
theorem jfl(hF:dq P tt){fn:Func}{rs:List ResultVar}(hrs:fn.results=rs.toArray){kp:List Bool}(hK:∀t,bt kp t=false->K t=false){sh:Shp}{s:TS}{b:sh.den}(hb:jow N tt kp rs sh s=some b){a:Act}{w:World}{J:Pl}(h:dr U w0 J0 K N s a w J):
  ∃v J',(results fn a.tmps).run P w= .ok v w/\HR U w0 J0 K (vw (du sh.hp b.2)) w J' /\VR (gr U (vw (du sh.hp b.2)) w J') (jlr rs.length (qiw sh.sl b.1)) v:=by
 unfold jow at hb;split at hb
 ·rename_i l hl;obtain⟨vs,hrun,hvs⟩:=jox (P:=P) hF h rs l hl;have hres:(results fn a.tmps).run P w= .ok (if h:vs.toArray.size=1 then vs.toArray[0]else .tuple vs.toArray) w:=by
   have e1:results fn a.tmps=(do let vs<-fn.results.mapM (j3j a.tmps);pure (if h:vs.size=1 then vs[0]else .tuple vs)):=by
    unfold results;congr 1
   rw[e1,hrs];simp only[List.mapM_toArray,WJ,Sem.run_map,hrun,Wy,WU]
  have hlen:∀(rs:List ResultVar) (l:List TV),jab N tt s rs=some l->l.length=rs.length:=by
   intro rs
   induction rs with
   |nil=>intro l hl;simp only[jab,Wb]at hl;subst hl;rfl
   |cons r rs ih=>
    intro l hl;unfold jab at hl;split at hl
    ·split at hl
     ·rename_i m hm;cases hl;simp[ih m hm]
     ·cases hl
    ·cases hl
  have hl1:=hlen rs l hl;have hl2:=hvs.len;have hr1:dr U w0 J0 K l.length ⟨qmh 0 l,s.H⟩ ⟨vs.toArray,[]⟩ w J:=by
   refine⟨rfl,by simp[hl2],fun t ht=> ?_,h.hr⟩;obtain⟨u,hu,hV⟩:=hvs.getD t ht;refine⟨u,by simpa using hu,?_⟩;simp only[q7i,W7,Kw,Nat.sub_zero];exact hV
  obtain⟨J',hr2⟩:=Shp.dec_ok hK hb hr1;refine⟨_,J',hres,hr2.hr,?_⟩;rw[show rs.length=vs.length by omega];refine j3k (jnn vs 0 fun i v hi=> ?_);rw[WR];obtain⟨v',hv',hV⟩:=hr2.slot i (by have:=(Wh.1 hi).1;omega);have:v' =v:=by
   have:vs[i]? =some v' :=by simpa using hv'
   rw[hi]at this;exact(Kp this).symm
  subst this;exact hV
 ·cases hb
theorem jn1{l:ShL}{objs:List Hs}{kp:List Bool}{B:Type}{res:B->TV}{outs:B->List TOb}{cs:{R:Type}->B->(B->Option R)->Option R}{csn:∀{R R' :Type} (b:B) (k:B->Option R) (f:R->Option R'),cs b (fun b=>(k b).bind f)=(cs b k).bind f}{m:l.den×na objs->Option B}:∀args Hv H a ρ bs,HLe (fun _=>False) Hv H->(jn0 l objs kp res outs cs csn m).dec args Hv=some (a,ρ,bs)->q9l ρ=true->q9d Hv.length ρ=true->q7l ρ bs=true->∀(U:Nat->Prop) (w0:World) (J0:Pl) (K:Nat->Bool) (w:World) (J:Pl),HR U w0 J0 K (vw H) w J->
  HR (qhb ρ U J) w (qp5 ρ J) (bt kp) (vw ((jn0 l objs kp res outs cs csn m).objs a)) w (qp5 ρ J)/\∀vs:List Value,gf (gr U (vw H) w J) args vs->gf (gr (qhb ρ U J) (vw ((jn0 l objs kp res outs cs csn m).objs a)) w (qp5 ρ J)) ((jn0 l objs kp res outs cs csn m).args a) vs:=by
 intro args Hv H a ρ bs hle hdec _ _ _ U w0 J0 K w J hHR;simp only[jn0]at hdec;split at hdec
 ·rename_i ρ' hρ;obtain⟨hok,hdec⟩:=ai hdec;split at hdec
  ·rename_i x hx;split at hdec
   ·rename_i y hy;cases hdec;obtain⟨hcv,hHR'⟩:=zbf (bt kp) hHR hle hok hy;refine⟨hHR',fun vs hvs=> ?_⟩;have:=ShL.dec_ok hcv l args x hx vs hvs;rw[qyo]at this;exact this
   ·cases hdec
  ·cases hdec
 ·cases hdec
theorem q4l{l:ShL}{objs:List Hs}{kp:List Bool}{k:Nat}{sh:Shp}{B:Type}{mk:B->sh.den}{m:l.den×na objs->Option B}:∀args Hv H a ρ bs,HLe (fun _=>False) Hv H->(ar l objs kp k sh mk m).dec args Hv=some (a,ρ,bs)->q9l ρ=true->q9d Hv.length ρ=true->q7l ρ bs=true->∀(U:Nat->Prop) (w0:World) (J0:Pl) (K:Nat->Bool) (w:World) (J:Pl),HR U w0 J0 K (vw H) w J->
 HR (qhb ρ U J) w (qp5 ρ J) (bt kp) (vw ((ar l objs kp k sh mk m).objs a)) w (qp5 ρ J)/\∀vs:List Value,gf (gr U (vw H) w J) args vs->gf (gr (qhb ρ U J) (vw ((ar l objs kp k sh mk m).objs a)) w (qp5 ρ J)) ((ar l objs kp k sh mk m).args a) vs:=jn1 (csn:=fun _ _ _=>rfl)
theorem qyj{l:ShL}{objs:List Hs}{kp:List Bool}{k:Nat}{sh:Shp}{B:Type}{mk:B->sh.den}{m:l.den×na objs->Option B}(hfr:sh.frB=true)(a:l.den×na objs)(b:B):TV.fresh ((ar l objs kp k sh mk m).res a b)=true/\qkb ((ar l objs kp k sh mk m).outs a b)=true:=by
 have hfr' :=hfr;simp only[Shp.frB,Wc]at hfr';exact⟨jfm (qxf sh.sl (mk b).1 hfr'.1) _,qvy sh.hp (mk b).2 hfr'.2⟩
theorem jfq{sh:Shp}(hfr:sh.frB=true)(k:Nat)(x:sh.den):TV.fresh (jlr k (qiw sh.sl x.1))=true/\qkb (du sh.hp x.2)=true:=by
 simp only[Shp.frB,Wc]at hfr;exact⟨jfm (qxf sh.sl x.1 hfr.1) _,qvy sh.hp x.2 hfr.2⟩
theorem jya{f:FuncId}{fn:Func}{c:Code}(hf:P.funcs[f]? =some fn)(hname:(fn.name== "runtime.NumGoroutine")=false)(hb:fn.body=some c){B:Type}{X:Ctx B}(hN:fn.ntmps=X.N)
  {l:ShL} {objs:List Hs} {res:B->TV} {outs:B->List TOb} {cs:{R:Type}->B->(B->Option R)->Option R} {csn:∀{R R' :Type} (b:B) (k:B->Option R) (f:R->Option R'),cs b (fun b=>(k b).bind f)=(cs b k).bind f} (hcs:∀(R:Type) (b:B) (k:B->Option R) (r:R),cs b k=some r->k b=some r) (hX:CtxOK P X) (hmix:P.follows .mixedOrders=true) {ann:Ann} (hs:∀p∈qw c ann,a8 P X p.1 p.2) (hl:l.len<=X.N)
  (hfr:∀b,TV.fresh (res b)=true/\qkb (outs b)=true)
  (done:∀(U:Nat->Prop) (w:World) (J:Pl) s' a' w' J' b,dr U w J (bt X.kp) X.N s' a' w' J' ->X.res s' =some b->a'.defers=[]/\∃v,(results fn a'.tmps).run P w' = .ok v w' /\∃v2 J',Ending.returned v= .returned v2/\HR U w J (bt X.kp) (vw (outs b)) w' J' /\VR (gr U (vw (outs b)) w' J') (res b) v2)
  {m:l.den×na objs->Option B} (hden:∀a,den X c ann ⟨qmh 0 (l.enc a.1),du objs a.2⟩ X.res (fun _ _=>none) some=m a):MdlOK P f (jn0 l objs X.kp res outs cs csn m):=by
 refine⟨⟨fn,hf,hname,by rw[hb];rfl⟩,fun a b hm U w J hHR vs hvs=> ?_,jn1 (csn:=csn),fun a b _=>hfr b,hcs⟩;have hm' :m a=some b:=hm;have hvl:vs.length=l.len:=by rw[hvs.len];exact ShL.enc_len l a.1
 have hr0:dr U w J (bt X.kp) X.N ⟨qmh 0 (l.enc a.1),du objs a.2⟩ {tmps:=vs.toArray++Array.replicate (fn.ntmps-vs.toArray.size) undef,defers:=[]} w J:=by
  refine⟨rfl,by simp[hN];omega,fun t ht=> ?_,hHR⟩;simp only[q7i,W7,Kw,Nat.sub_zero];rcases Wz t vs.length with h1|h1
  ·obtain⟨u,hu,hV⟩:=gf.getD hvs t (by show t<(l.enc a.1).length;rw[ShL.enc_len];omega);exact⟨u,by rw[Ku (by simpa using h1)];simpa using hu,hV⟩
  ·refine⟨undef,?_,?_⟩
   ·rw[Array.getElem?_append_right (by simpa using h1)];simp[hN];rw[Array.getElem?_replicate,if_pos (by omega)]
   ·rw[Wa,Wp (by rw[ShL.enc_len];omega)]
    trivial
 have hd:=hden a;rw[hm']at hd;refine calls_of_wp hf hb (K0 ?_ (jdb (K:=bt X.kp) hX hmix (fun t h=>h) c ann _ _ _ _ hs hd _ w J hr0));rintro e a' w' ⟨s',J',h1,hpost⟩;cases e with
 |normal=>exact done U w J s' a' w' J' b h1 hpost
 |ret=>
  obtain⟨x,hx,hk⟩:=hpost;cases hk;exact done U w J s' a' w' J' b h1 hx
 |exit id=>cases hpost
 |_=>exact hpost.elim
theorem zcv{f:FuncId}{fn:Func}{c:Code}(hf:P.funcs[f]? =some fn)(hname:(fn.name== "runtime.NumGoroutine")=false)(hb:fn.body=some c){B:Type}{X:Ctx B}(hN:fn.ntmps=X.N){rs:List ResultVar}
  (hrs:fn.results=rs.toArray) {l:ShL} {objs:List Hs} {sh:Shp} {un:sh.den->B} {mk:B->sh.den} (hmk:∀x,mk (un x)=x) (hres:X.res=bx X.N X.tt X.kp rs sh un) (hX:CtxOK P X) (hmix:P.follows .mixedOrders=true) {ann:Ann} (hs:∀p∈qw c ann,a8 P X p.1 p.2) (hl:l.len<=X.N) (hfr:sh.frB=true)
  {m:l.den×na objs->Option B} (hden:∀a,den X c ann ⟨qmh 0 (l.enc a.1),du objs a.2⟩ X.res (fun _ _=>none) some=m a):MdlOK P f (ar l objs X.kp rs.length sh mk m):=by
 refine jya (csn:=fun _ _ _=>rfl) hf hname hb hN (fun _ _ _ _ h=>h) hX hmix hs hl (fun b=>jfq hfr _ _) (fun U w J s' a' w' J' b h1 h2=> ?_) hden;rw[hres]at h2;unfold bx at h2;split at h2
 ·rename_i b0 hb0;cases h2;rw[hmk];obtain⟨v,J2,e1,e2,e3⟩:=jfl hX.fits hrs (fun t h=>h) hb0 h1;exact⟨h1.defers,v,e1,v,J2,rfl,e2,e3⟩
 ·cases h2
theorem j9w{f:FuncId}{fn:Func}{c:Code}(hf:P.funcs[f]? =some fn)(hname:(fn.name== "runtime.NumGoroutine")=false)(hb:fn.body=some c){B1 B2:Type}{X:Ctx (B1⊕B2)}(hN:fn.ntmps=X.N){rs:List ResultVar}
  (hrs:fn.results=rs.toArray) {l:ShL} {objs:List Hs} {sh1 sh2:Shp} {un1:sh1.den->B1} {un2:sh2.den->B2} {mk1:B1->sh1.den} {mk2:B2->sh2.den} (hmk1:∀x,mk1 (un1 x)=x) (hmk2:∀x,mk2 (un2 x)=x) (hres:X.res=jiy X.N X.tt X.kp rs sh1 sh2 un1 un2) (hX:CtxOK P X) (hmix:P.follows .mixedOrders=true) {ann:Ann} (hs:∀p∈qw c ann,a8 P X p.1 p.2) (hl:l.len<=X.N) (hfr1:sh1.frB=true) (hfr2:sh2.frB=true)
  {m:l.den×na objs->Option (B1⊕B2)} (hden:∀a,den X c ann ⟨qmh 0 (l.enc a.1),du objs a.2⟩ X.res (fun _ _=>none) some=m a):MdlOK P f (jk4 l objs X.kp rs.length sh1 sh2 mk1 mk2 m):=by
 refine jya (csn:=fun b _ _=>by cases b<;>rfl) hf hname hb hN (fun _ b _ _ h=>by cases b<;>exact h) hX hmix hs hl (fun b=>by cases b<;>first|exact jfq hfr1 _ _|exact jfq hfr2 _ _) (fun U w J s' a' w' J' b h1 h2=> ?_) hden;rw[hres]at h2;unfold jiy at h2;split at h2
 ·rename_i b0 hb0;cases h2;obtain⟨v,J2,e1,e2,e3⟩:=jfl hX.fits hrs (fun t h=>h) hb0 h1;refine⟨h1.defers,v,e1,v,J2,rfl,?_,?_⟩<;>simp only[jwi,hmk1]<;>assumption
 ·split at h2
  ·rename_i b0 hb0;cases h2;obtain⟨v,J2,e1,e2,e3⟩:=jfl hX.fits hrs (fun t h=>h) hb0 h1;refine⟨h1.defers,v,e1,v,J2,rfl,?_,?_⟩<;>simp only[jwi,hmk2]<;>assumption
  ·cases h2
def zag{A B:Type}(F:(A->Option B)->A->Option B)(n:Nat):A->Option B:=
 Nat.rec (motive:=fun _=>A->Option B) (fun _=>none) (fun _ ih a=>F ih a) n
theorem zah{f:FuncId}{fn:Func}{c:Code}{l:ShL}{objs:List Hs}{kp:List Bool}{k:Nat}{sh:Shp}{B:Type}{mk:B->sh.den}{F:(l.den×na objs->Option B)->l.den×na objs->Option B}(hf:P.funcs[f]? =some fn)(hname:(fn.name== "runtime.NumGoroutine")=false)(hb:fn.body=some c)(hfr:sh.frB=true)
  (hstep:∀rec,MdlOK P f (ar l objs kp k sh mk rec)->MdlOK P f (ar l objs kp k sh mk (F rec))):MdlOK P f (ar l objs kp k sh mk (fun a=>zag F many a)):=by
 have key:∀n,MdlOK P f (ar l objs kp k sh mk (zag F n)):=by
  intro n
  induction n with
  |zero=>exact⟨⟨fn,hf,hname,by rw[hb];rfl⟩,(fun a b hm=>by cases hm),q4l,fun a b _=>qyj hfr a b,fun _ _ _ _ h=>h⟩
  |succ n ih=>exact hstep _ ih
 exact key many
theorem jvp{f:FuncId}{s:Sh}{l:ShL}{objs:List Hs}{kp:List Bool}{k:Nat}{sh:Shp}{B:Type}{mk:B->sh.den}{m m0 m1:(ShL.cons s l).den×na objs->Option B}(hs:∀(G:Gr) (x:s.den) (v:Value),VR G (s.enc x) v->∃a n c,v= .slice a n c)
  (h0:MdlOK P f (ar (.cons (.nl false s) l) objs kp k sh mk m0)) (h1:MdlOK P f (ar (.cons (.nl true s) l) objs kp k sh mk m1)) (hfr:sh.frB=true) (hm:∀a b,m a=some b->m0 a=some b/\m1 a=some b):MdlOK P f (ar (.cons s l) objs kp k sh mk m):=by
 refine⟨h0.fn,fun a b hb U w J hHR vs hvs=> ?_,q4l,fun a b _=>qyj hfr a b,fun _ _ _ _ h=>h⟩;obtain⟨hb0,hb1⟩:=hm a b hb;obtain⟨u,r,rfl,h2,h3⟩:=(show gf _ (s.enc a.1.1::l.enc a.1.2) vs from hvs);obtain⟨ad,n,c,rfl⟩:=hs _ _ _ h2;cases ad with
 |none=>exact h0.run a b hb0 U w J hHR _ ⟨_,r,rfl,⟨h2,fun a' c' e=>by cases e;rfl⟩,h3⟩
 |some q=>exact h1.run a b hb1 U w J hHR _ ⟨_,r,rfl,⟨h2,fun n' c' e=>by cases e⟩,h3⟩
theorem j3t(fr:Bool)(t:Ty):∀(G:Gr) (x:(Sh.d fr (.slice t)).den) (v:Value),VR G ((Sh.d fr (.slice t)).enc x) v->∃a n c,v= .slice a n c:=by
 intro G x v h;obtain⟨a,c,h,_⟩:=h;exact⟨_,_,_,h⟩
def gp:List (FuncId×Mdl)->FuncId->List Mdl
 |[],_=>[]
 |p::l,f=>bif Nat.beq p.1 f then p.2::gp l f else gp l f
theorem j9z{l:List (FuncId×Mdl)}(h:∀p∈l,MdlOK P p.1 p.2):∀f M,M∈gp l f->MdlOK P f M:=by
 intro f M hM
 induction l with
 |nil=>simp[gp]at hM
 |cons p l ih=>
  unfold gp at hM;cases hb:Nat.beq p.1 f with
  |false=>rw[hb]at hM;exact ih (fun q hq=>h q (We _ hq)) hM
  |true=>
   rw[hb]at hM;rcases Wr.1 hM with rfl|hM
   ·rw[<-ax hb];exact h p (Wf ..)
   ·exact ih (fun q hq=>h q (We _ hq)) hM
def jcn(P:Program):List (FuncId×Mdl)->Prop
 |[]=>True
 |p::l=>MdlOK P p.1 p.2/\jcn P l
theorem jcn.all{P:Program}:∀{l:List (FuncId×Mdl)},jcn P l->∀p∈l,MdlOK P p.1 p.2
 |[],_,p,hp=>by simp at hp
 |q::l,h,p,hp=>by
  rcases Wr.1 hp with rfl|hp
  ·exact h.1
  ·exact jcn.all h.2 p hp
def qt5(P:Program){Rf:Type}(X:Ctx Rf):List (Nat×Code)->Prop
 |[]=>True
 |p::l=>a8 P X p.1 p.2/\qt5 P X l
theorem qt5.all{P:Program}{Rf:Type}{X:Ctx Rf}{c:Code}{ann:Ann}{l:List (Nat×Code)}(h:qw c ann=l)(hl:qt5 P X l):∀p∈qw c ann,a8 P X p.1 p.2:=by
 rw[h];clear h
 induction l with
 |nil=>intro p hp;simp at hp
 |cons q l ih=>
  intro p hp;rcases Wr.1 hp with rfl|hp
  ·exact hl.1
  ·exact ih hl.2 p hp
def iw{Rf:Type}:List (Summ Rf)->Nat->Option (Summ Rf)
 |[],_=>none
 |J::_,0=>some J
 |_::l,n+1=>iw l n
end
end Go.K
namespace Go.K
open Go.M Go.RowKit Go.ChangeShapes Go.WideShapes Go.Deep
mutual
def Ty.good:(t:Ty)->t.den->Prop
 | .int k,n=> @LE.le Int _ k.min n/\ @LE.le Int _ n k.max
 | .bool,_=>True
 | .str,s=>ByteArray.size s<=maxLen
 | .slice t,xs=>List.length (α:=t.den) xs<=maxLen/\∀x:t.den,@Membership.mem t.den (List t.den) _ xs x->t.good x
 | .struct l,x=>l.good x
 | .tree _ _,_=>True
def TyL.good:(l:TyL)->l.den->Prop
 | .nil,_=>True
 | .cons t l,x=>t.good x.1/\l.good x.2
end
def j3y(tt:TT)(t:TypeId)(n:Nat):Bool:=match tt t with|some x=>Nat.beq x.sz n|none=>false
def ju7(tt:TT)(ok:TypeId->Ty->Bool):List (Nat×TypeId)->TyL->Nat->Bool
 |[], .nil,_=>true
 |(o,t)::fs, .cons u l,off=>Nat.beq o off&&(ok t u&&(j3y tt t u.sz&&ju7 tt ok fs l (off+u.sz)))
 |_,_,_=>false
def jh1(ok:TypeId->Ty->Bool)(e:TypeId)(z:Nat):Nat->TyL->Bool
 |0, .nil=>true
 |n+1, .cons u l=>ok e u&&(Nat.beq u.sz z&&jh1 ok e z n l)
 |_,_=>false
def jph(tt:TT):Nat->TypeId->Ty->Bool
 |0,_,_=>false
 |n+1,t,u=>
  match u,tt t with
  | .int k,some ⟨.int k',_,_,_⟩=>decide (k=k')
  | .bool,some ⟨.bool,_,_,_⟩=>true
  | .str,some ⟨.str,_,_,_⟩=>true
  | .slice u,some ⟨.slice e,_,_,_⟩=>jph tt n e u&&(j3y tt e u.sz&&Nat.blt 0 u.sz)
  | .struct l,some ⟨.strct _ fs,sz,_,_⟩=>ju7 tt (jph tt n) fs l 0&&Nat.beq l.sz sz
  | .struct l,some ⟨.arr _ k e,sz,_,_⟩=>match tt e with|some ei=>jh1 (jph tt n) e ei.sz k l&&Nat.beq l.sz sz|none=>false
  |_,_=>false
section
variable {P : Program} {tt : TT}
theorem qrb(hF:dq P tt){t:TypeId}{x:TI}(h:tt t=some x):P.cellsOf t=x.sz:=by
 obtain⟨i,d,z,h1,h2,h3,h4,_⟩:=(hF t x h).1;simp[Program.cellsOf,h1,h4]
theorem uo(hF:dq P tt){t:TypeId}{x:TI}(h:tt t=some x):∃d,P.underlying t=some d/\TK.of d=x.k.plain:=by
 obtain⟨i,d,z,h1,h2,h3,_⟩:=(hF t x h).1;exact⟨d,h2,h3⟩
theorem jt7(hF:dq P tt){t:TypeId}{n:Nat}(h:j3y tt t n=true):P.cellsOf t=n:=by
 unfold j3y at h;split at h
 ·rename_i x hx;rw[qrb hF hx];exact ax h
 ·cases h
theorem jzj{d:TypeDesc}{k:IntKind}(h:TK.of d= .int k):d= .int k:=by cases d<;>simp_all[TK.of]
theorem jta{d:TypeDesc}(h:TK.of d= .bool):d= .bool:=by cases d<;>simp_all[TK.of]
theorem jzk{d:TypeDesc}(h:TK.of d= .str):d= .string:=by cases d<;>simp_all[TK.of]
theorem job{d:TypeDesc}{e:TypeId}(h:TK.of d= .slice e):d= .slice e:=by cases d<;>simp_all[TK.of]
theorem jzi{d:TypeDesc}{n:Nat}{e:TypeId}(h:TK.of d= .arr false n e):d= .array n e:=by cases d<;>simp_all[TK.of]
theorem joc{d:TypeDesc}{l:List (Nat×TypeId)}(h:TK.of d= .strct false l):∃fs:Array Field,d= .struct fs/\(fs.toList.map fun f=>(f.offset,f.type))=l:=by
 cases d<;>simp_all[TK.of]
def jpw(P:Program)(t:TypeId)(u:Ty):Prop:=
 ∀(H:Type) (enc:TypeId×Value->H) (w:World) (sp:Nat->Bool) (held:Bool) (fuel:Nat) (cs:List Value) (x:DataW H×List MemPlace),DataW.trod enc P w 0 sp held fuel t cs=some x->
  ∃m:u.den,u.good m/\cs.length=u.sz/\∀f,f<u.sz->∃y,cs[f]? =some y/\y.oneCell' =true/\Ty.C w (fun _=>False) u m f y
theorem Opn.int{t:TypeId}{k:IntKind}(ht:P.underlying t=some (.int k)):jpw P t (.int k):=by
 intro H enc w sp held fuel cs x hx;obtain⟨n,rfl,_,hw⟩:=DataW.trod_int ht hx;simp only[Lit.wf,Wc,WH]at hw;refine⟨n,hw,rfl,fun f hf=> ?_⟩;obtain rfl:f=0:=by simp[Ty.sz]at hf;omega
 exact⟨_,rfl,rfl,rfl⟩
theorem Opn.bool{t:TypeId}(ht:P.underlying t=some .bool):jpw P t .bool:=by
 intro H enc w sp held fuel cs x hx;obtain⟨b,rfl,_⟩:=DataW.trod_bool ht hx;refine⟨b,trivial,rfl,fun f hf=> ?_⟩;obtain rfl:f=0:=by simp[Ty.sz]at hf;omega
 exact⟨_,rfl,rfl,rfl⟩
theorem Opn.slice{t e:TypeId}{u:Ty}(h:jpw P e u)(ht:P.underlying t=some (.slice e))(hc:P.cellsOf e=u.sz)(h0:0<u.sz):jpw P t (.slice u):=by
 intro H enc w sp held fuel cs x hx;rcases open_slice ht hx with⟨rfl,_⟩|⟨a,len,cap,m,n,D,Pl,rfl,hb,hl,hm,hmm,_,hi⟩
 ·refine⟨([]:List u.den),⟨by simp[maxLen],fun x hx=>by simp at hx⟩,rfl,fun f hf=> ?_⟩;obtain rfl:f=0:=by simp[Ty.sz]at hf;omega
  exact⟨_,rfl,rfl,none,0,rfl,Wg _,by simp[maxLen],fun h=>by simp at h⟩
 ·have hlm:len<=m:=by rw[hmm];split<;>omega
  have hel:∀i,i<len->∃y:u.den,u.good y/\∀f,f<u.sz->∃z,w.cell? (a.add (i*u.sz+f))=some z/\z.oneCell' =true/\Ty.C w (fun _=>False) u y f z:=by
   intro i hil;obtain⟨cs',h1,h2⟩:=hi i (by omega);rw[hc]at h1;obtain⟨_,hcl,hat⟩:=World.cells?_some h1;obtain⟨y,hy,hyl,hyc⟩:=h H enc w sp held n cs' _ h2;refine⟨y,hy,fun f hf=> ?_⟩;obtain⟨z,hz,h3⟩:=hyc f hf;exact⟨z,by rw[<-Go.Deep.add_add,hat f hf];exact hz,h3⟩
  have hch:∃g:Nat->u.den,∀i,i<len->u.good (g i)/\∀f,f<u.sz->∃z,w.cell? (a.add (i*u.sz+f))=some z/\z.oneCell' =true/\Ty.C w (fun _=>False) u (g i) f z:=by
   refine⟨fun i=>if hi:i<len then Classical.choose (hel i hi)else u.dft,fun i hil=> ?_⟩;simp only[hil,dif_pos];exact Classical.choose_spec (hel i hil)
  obtain⟨g,hg⟩:=hch;refine⟨(List.range len).map g,⟨by simpa using by omega,fun y hy=> ?_⟩,rfl,fun f hf=> ?_⟩
  ·obtain⟨i,hir,rfl⟩:=WG.1 hy;exact(hg i (Kk.1 hir)).1
  ·obtain rfl:f=0:=by simp[Ty.sz]at hf;omega
   refine⟨_,rfl,rfl,some a,cap,by simp,by simpa using hl,hm,fun h0' => ?_⟩;have hlen:0<len:=by simpa using h0'
   obtain⟨u0,hu0,_⟩:=(hg 0 hlen).2 0 h0;have hs:a.spot=none/\a.block<w.heap.size:=by
    unfold World.cell? at hu0;split at hu0
    ·rename_i hb';split at hu0
     ·cases hu0
     ·rename_i hsp;refine⟨by simpa[Addr.add]using hsp,?_⟩;have:=(W4.1 hb').1;simpa[Addr.add]using this
    ·cases hu0
   obtain⟨b,o,s⟩:=a;obtain rfl:s=none:=hs.1;refine⟨b,o,rfl,hs.2,fun h=>h,fun i f hi' hf' => ?_⟩;have hil:i<len:=by simpa using hi'
   obtain⟨z,hz,h1,h2⟩:=(hg i hil).2 f hf';have ha:(⟨b,o,none⟩:Addr).add (i*u.sz+f)=⟨b,o+(i*u.sz+f),none⟩:=by
    unfold Addr.add;split
    ·rename_i h;simp[h]
    ·rfl
   refine⟨z,ha▸hz,h1,?_⟩;have e:List.getD (α:=u.den) ((List.range len).map g) i u.dft=g i:=by simp[Wa,hil]
   rw[e];exact h2
theorem q9n{H:Type}{enc:TypeId×Value->H}{w:World}{sp:Nat->Bool}{held:Bool}{n:Nat}{cs:List Value}(hF:dq P tt){ok:TypeId->Ty->Bool}(hok:∀t u,ok t u=true->jpw P t u):
  ∀(fs:List (Nat×TypeId)) (l:TyL) (off:Nat),ju7 tt ok fs l off=true->(∀p∈fs,∃y,DataW.trod enc P w 0 sp held n p.2 ((cs.drop p.1).take (P.cellsOf p.2))=some y)->
   ∃x:l.den,l.good x/\∀f,f<l.sz->∃u,cs[off+f]? =some u/\u.oneCell' =true/\TyL.C w (fun _=>False) l x f u
 |[], .nil,off,_,_=>⟨(),trivial,fun f hf=>by simp[TyL.sz]at hf⟩
 |[], .cons _ _,off,h,_=>by simp[ju7]at h
 |_::_, .nil,off,h,_=>by simp[ju7]at h
 |(o,t)::fs, .cons u l,off,h,hr=>by
  simp only[ju7,Wc]at h;obtain⟨h1,h2,h3,h4⟩:=h;have ho:=ax h1;subst ho;have hc:=jt7 hF h3;obtain⟨y,hy⟩:=hr (o,t) (Wf ..);obtain⟨x1,g1,_,c1⟩:=hok t u h2 H enc w sp held n _ y hy;obtain⟨x2,g2,c2⟩:=q9n hF hok fs l (o+u.sz) h4 (fun p hp=>hr p (We _ hp));refine⟨(x1,x2),⟨g1,g2⟩,fun f hf=> ?_⟩;unfold TyL.sz at hf;show∃u',cs[o+f]? =some u' /\u'.oneCell' =true/\(if f<u.sz then Ty.C w (fun _=>False) u x1 f u' else TyL.C w (fun _=>False) l x2 (f-u.sz) u');by_cases hlt:f<u.sz
  ·simp only[if_pos hlt];obtain⟨u',hu',hh⟩:=c1 f hlt;simp only[hc]at hu';rw[WZ,if_pos hlt,WI]at hu';exact⟨u',hu',hh⟩
  ·simp only[if_neg hlt];obtain⟨u',hu',hh⟩:=c2 (f-u.sz) (by omega);refine⟨u',?_,hh⟩;rw[<-hu'];congr 1;omega
theorem jdd{H:Type}{enc:TypeId×Value->H}{w:World}{sp:Nat->Bool}{held:Bool}{n:Nat}{cs:List Value}{e:TypeId}{z:Nat}(hz:P.cellsOf e=z){ok:TypeId->Ty->Bool}(hok:∀t u,ok t u=true->jpw P t u):
  ∀(k:Nat) (l:TyL) (i0:Nat),jh1 ok e z k l=true->(∀i,i<k->∃y,DataW.trod enc P w 0 sp held n e ((cs.drop ((i0+i)*z)).take z)=some y)->
   ∃x:l.den,l.good x/\∀f,f<l.sz->∃u,cs[i0*z+f]? =some u/\u.oneCell' =true/\TyL.C w (fun _=>False) l x f u
 |0, .nil,i0,_,_=>⟨(),trivial,fun f hf=>by simp[TyL.sz]at hf⟩
 |0, .cons _ _,i0,h,_=>by simp[jh1]at h
 |_+1, .nil,i0,h,_=>by simp[jh1]at h
 |k+1, .cons u l,i0,h,hr=>by
  simp only[jh1,Wc]at h;obtain⟨h1,h2,h3⟩:=h;have hu:=ax h2;obtain⟨y,hy⟩:=hr 0 (by omega);obtain⟨x1,g1,_,c1⟩:=hok e u h1 H enc w sp held n _ y hy;obtain⟨x2,g2,c2⟩:=jdd hz hok k l (i0+1) h3 (fun i hi=>by have:=hr (i+1) (by omega);rwa[show i0+(i+1)=i0+1+i by omega]at this);refine⟨(x1,x2),⟨g1,g2⟩,fun f hf=> ?_⟩;unfold TyL.sz at hf;show∃u',cs[i0*z+f]? =some u' /\u'.oneCell' =true/\(if f<u.sz then Ty.C w (fun _=>False) u x1 f u' else TyL.C w (fun _=>False) l x2 (f-u.sz) u');by_cases hlt:f<u.sz
  ·simp only[if_pos hlt];obtain⟨u',hu',hh⟩:=c1 f hlt;rw[WZ,if_pos (by omega),WI]at hu';exact⟨u',by simpa using hu',hh⟩
  ·simp only[if_neg hlt];obtain⟨u',hu',hh⟩:=c2 (f-u.sz) (by omega);refine⟨u',?_,hh⟩;rw[<-hu'];congr 1;rw[WM];omega
theorem ze7(hF:dq P tt):∀(n:Nat) (t:TypeId) (u:Ty),jph tt n t u=true->jpw P t u:=by
 intro n
 induction n with
 |zero=>intro t u h;simp[jph]at h
 |succ n ih=>
  intro t u h;unfold jph at h;split at h
  ·rename_i k k' a1 a2 a3 ht;have hk:k=k' :=by simpa using h
   subst hk;obtain⟨d,hd,hk⟩:=uo hF ht;exact Opn.int (jzj hk▸hd)
  ·rename_i a1 a2 a3 ht;obtain⟨d,hd,hk⟩:=uo hF ht;exact Opn.bool (jta hk▸hd)
  ·rename_i a1 a2 a3 ht;obtain⟨d,hd,hk⟩:=uo hF ht;have hs:=jzk hk;subst hs;intro H enc w sp held fuel cs x hx;obtain⟨s,rfl,_,hsz⟩:=DataW.trod_string hd hx;refine⟨s,hsz,rfl,fun f hf=> ?_⟩;obtain rfl:f=0:=by simp[Ty.sz]at hf;omega
   exact⟨_,rfl,rfl,rfl⟩
  ·rename_i u e a1 a2 a3 ht;simp only[Wc]at h;obtain⟨h1,h2,h3⟩:=h;obtain⟨d,hd,hk⟩:=uo hF ht;exact Opn.slice (ih e u h1) (job hk▸hd) (jt7 hF h2) (cm h3)
  ·rename_i l c fs sz a2 a3 ht;simp only[Wc]at h;obtain⟨h1,h2⟩:=h;obtain⟨d,hd,hk⟩:=uo hF ht;obtain⟨fs',hfs,hl⟩:=joc hk;subst hfs;intro H enc w sp held fuel cs x hx;obtain⟨xs,m,hf,_,hcl,hxl,hfl⟩:=DataW.trod_struct hd hx;obtain⟨y,gy,cy⟩:=q9n (H:=H) (enc:=enc) (w:=w) (sp:=sp) (held:=held) (n:=m) (cs:=cs) hF ih fs l 0 h1 (by
    intro p hp;rw[<-hl]at hp;obtain⟨f,hfm,rfl⟩:=WG.1 hp;obtain⟨i,hi,hif⟩:=List.getElem_of_mem hfm;have hfi:fs'[i]? =some f:=by rw[<-hif];simp at hi;simp[hi]
    have h4:=hfl i f hfi;have hi' :i<fs'.size:=by simpa using hi
    rw[Wi (by omega)]at h4;exact⟨_,h4⟩)
   have hsz:cs.length=l.sz:=by rw[hcl,qrb hF ht];exact(ax h2).symm
   exact⟨y,gy,hsz,fun f hf=>by have:=cy f hf;rw[WR]at this;exact this⟩
  ·rename_i l c k e sz a2 a3 ht;split at h
   ·rename_i ei he;simp only[Wc]at h;obtain⟨h1,h2⟩:=h;obtain⟨d,hd,hk⟩:=uo hF ht;have hd' :=jzi hk;subst hd';intro H enc w sp held fuel cs x hx;obtain⟨xs,m,hf,_,hcl,hxl,hfl⟩:=DataW.trod_array hd hx;have hz:=qrb hF he;obtain⟨y,gy,cy⟩:=jdd (H:=H) (enc:=enc) (w:=w) (sp:=sp) (held:=held) (n:=m) (cs:=cs) hz ih k l 0 h1 (by
     intro i hi;have h4:=hfl i hi;rw[Wi (by omega),hz]at h4;exact⟨_,by simpa using h4⟩)
    have hsz:cs.length=l.sz:=by rw[hcl,qrb hF ht];exact(ax h2).symm
    exact⟨y,gy,hsz,fun f hf=>by have:=cy f hf;rw[Nat.zero_mul,WR]at this;exact this⟩
   ·cases h
  ·cases h
def q09(tt:TT):List TypeId->ShL->Bool
 |[], .nil=>true
 |t::ts, .cons (.d _ u) l=>jph tt 12 t u&&q09 tt ts l
 |_,_=>false
def ShL.good:(l:ShL)->l.den->Prop
 | .nil,_=>True
 | .cons (.d _ t) l,x=>t.good x.1/\l.good x.2
 | .cons _ l,x=>l.good x.2
def gr0(w:World):Gr:=gr (fun _=>False) (vw []) w (fun _=>none)
theorem j39{w:World}{u:Ty}{x:u.den}{f:Nat}{v:Value}(h:Ty.C w (fun _=>False) u x f v)(fr:Bool):Ty.C w (YY (gr0 w).X (gr0 w).U fr) u x f v:=by
 refine Ty.C_low ⟨Wg _,fun b _ _ hY=> ?_,fun _ _ _=>rfl⟩ u x f v h;rcases hY with⟨T,o,hT⟩|⟨_,e⟩
 ·cases hT
 ·exact e
theorem jh0{H:Type}{enc:TypeId×Value->H}{W:World}{sp:Nat->Bool}{held:Bool}{base:Nat}(hF:dq P tt):∀(ts:List TypeId) (l:ShL),q09 tt ts l=true->∀(vs:List Value) (ds:List (DataW H)) (ps:List MemPlace),
  DataW.TrodAll enc P W 0 sp held ts vs ds ps->(∀(j:Nat) t v,ts[j]? =some t->vs[j]? =some v->Value.okWide P W .any base t v)->
  ∃a:l.den,l.good a/\gf (gr0 W) (l.enc a) vs
 |[], .nil,_,vs,ds,ps,h,_=>by
  obtain⟨rfl,_,_⟩:=trodAll_nil h;exact⟨(),trivial,rfl⟩
 |[], .cons _ _,h,_,_,_,_,_=>by simp[q09]at h
 |_::_, .nil,h,_,_,_,_,_=>by simp[q09]at h
 |t::ts, .cons (.rp _ _) l,h,_,_,_,_,_=>by simp[q09]at h
 |t::ts, .cons (.kid _ _) l,h,_,_,_,_,_=>by simp[q09]at h
 |t::ts, .cons (.nl _ _) l,h,_,_,_,_,_=>by simp[q09]at h
 |t::ts, .cons (.nf _) l,h,_,_,_,_,_=>by simp[q09]at h
 |t::ts, .cons (.fn _ _) l,h,_,_,_,_,_=>by simp[q09]at h
 |t::ts, .cons (.agg _) l,h,_,_,_,_,_=>by simp[q09]at h
 |t::ts, .cons (.own _) l,h,_,_,_,_,_=>by simp[q09]at h
 |t::ts, .cons (.ptr _) l,h,_,_,_,_,_=>by simp[q09]at h
 |t::ts, .cons .e l,h,_,_,_,_,_=>by simp[q09]at h
 |t::ts, .cons (.d fr u) l,h,vs,ds,ps,hA,hval=>by
  simp only[q09,Wc]at h;obtain⟨v,vs',d,ds',p,q,rfl,rfl,rfl,h1,h2⟩:=trodAll_cons hA;obtain⟨a2,g2,c2⟩:=jh0 hF ts l h.2 vs' ds' q h2 (fun j t' v' hj hv=>hval (j+1) t' v' (by simpa using hj) (by simpa using hv));have hv0:=hval 0 t v rfl rfl;have key:∃x:u.den,u.good x/\VR (gr0 W) (jgb fr u x) v:=by
   have hop:=ze7 hF 12 t u h.1;obtain⟨fuel,hf⟩:=h1;obtain⟨x,gx,hl,hc⟩:=hop H enc W sp held fuel _ _ hf;refine⟨x,gx,?_⟩;have one:u.sz=1->v.cells= #[v]->Ty.C W (fun _=>False) u x 0 v:=by
    intro hu hv;obtain⟨u',hu',_,hV⟩:=hc 0 (by omega);rw[hv]at hu';simp at hu';subst hu';exact hV
   have hty:=h.1;unfold jph at hty;split at hty
   ·rename_i k k' a1 a2 a3 ht;obtain⟨d',hd,hk⟩:=uo hF ht;have:=jzj hk;subst this;obtain⟨m,rfl⟩:=okWide_int hd hv0;exact one rfl rfl
   ·rename_i a1 a2 a3 ht;obtain⟨d',hd,hk⟩:=uo hF ht;have:=jta hk;subst this;obtain⟨m,rfl⟩:=okWide_bool hd hv0;exact one rfl rfl
   ·rename_i a1 a2 a3 ht;obtain⟨d',hd,hk⟩:=uo hF ht;have:=jzk hk;subst this;obtain⟨m,rfl⟩:=okWide_string hd hv0;exact one rfl rfl
   ·rename_i u' e a1 a2 a3 ht;obtain⟨d',hd,hk⟩:=uo hF ht;have:=job hk;subst this;obtain⟨a,len,cap,rfl⟩:=okWide_slice hd hv0;exact j39 (u:= .slice u') (one rfl rfl) fr
   ·rename_i l' c fs sz a2 a3 ht;obtain⟨d',hd,hk⟩:=uo hF ht;obtain⟨fs',hfs,_⟩:=joc hk;subst hfs;have hv1:=hv0;unfold Value.okWide at hv1;rw[hd]at hv1;obtain⟨cs,rfl,_⟩:=hv1;exact strct hl hc
   ·rename_i l' c k e sz a2 a3 ht;obtain⟨d',hd,hk⟩:=uo hF ht;have:=jzi hk;subst this;have hv1:=hv0;unfold Value.okWide at hv1;rw[hd]at hv1;obtain⟨cs,rfl,_⟩:=hv1;exact strct hl hc
   ·cases hty
  obtain⟨x,gx,hV⟩:=key;exact⟨(x,a2),⟨gx,g2⟩,v,vs',rfl,hV,c2⟩
 where
 strct {W:World} {fr:Bool} {l' :TyL} {x:l'.den} {cs:Array Value} (hl:(Value.cells (.agg cs)).toList.length=(Ty.struct l').sz) (hc:∀f,f<(Ty.struct l').sz->∃u,(Value.cells (.agg cs)).toList[f]? =some u/\u.oneCell' =true/\Ty.C W (fun _=>False) (.struct l') x f u):
   VR (gr0 W) (jgb fr (.struct l') x) (.agg cs):=by
  have hlen:(TyL.cells fr l' x).length=l'.sz:=TyL.cells_len fr l' x;have hcl:cs.toList.length=l'.sz:=hl;refine⟨cs.toList,by simp,gf.of (by rw[hcl,hlen]) (fun j A u hA hu=> ?_),fun u hu=> ?_⟩
  ·have hj:j<l'.sz:=by rw[<-hlen];exact(Wh.1 hA).1
   obtain⟨y,hy,_,h2⟩:=hc j hj;have hy' :cs.toList[j]? =some y:=by simpa[Value.cells]using hy
   rw[hu]at hy';cases hy';have h3:=(Ty.C_iff (gr0 W) fr (.struct l') x j u hj).1 (j39 h2 fr);have e:(Ty.cells fr (.struct l') x).getD j .any=A:=by
    have hA' :(Ty.cells fr (.struct l') x)[j]? =some A:=hA;rw[Wa,hA'];rfl
   rw[e]at h3;exact h3
  ·obtain⟨i,hi,hiu⟩:=List.getElem_of_mem hu;obtain⟨y,hy,h1,_⟩:=hc i (by show i<l'.sz;omega);have hy' :cs.toList[i]? =some y:=by simpa[Value.cells]using hy
   rw[Wi hi,hiu]at hy';cases hy';exact h1
theorem q01{H:Type}{enc:TypeId×Value->H}(hl:laidOutB P=true){W W' :World}{sp:Nat->Bool}(hb:Below W.heap.size W W'):∀{ts:List TypeId} {vs:List Value} {ds:List (DataW H)} {ps:List MemPlace},
  ts.all (fun t=>P.readableRec t&&decide (t<P.types.size))=true->DataW.TrodAll enc P W 0 (fun _=>true) true ts vs ds ps->(∀x∈ps,x.block<W.heap.size)->(∀x∈ps,sp x.block=true)->DataW.TrodAll enc P W' 0 sp true ts vs ds ps
 |[],[],[],_,_,h,_,_=>h
 |[],_::_,_,_,_,h,_,_=>h.elim
 |[],[],_::_,_,_,h,_,_=>h.elim
 |_::_,[],_,_,_,h,_,_=>h.elim
 |_::_,_::_,[],_,_,h,_,_=>h.elim
 |t::ts,v::vs,d::ds,ps,hr,h,hlt,hsp=>by
  obtain⟨p,q,h1,h2,e⟩:=h;subst e;simp only[List.all_cons,Wc,WH]at hr;exact⟨p,q,WideElems.Trod_stays hl hr.1.1 hr.1.2 h1 (fun x hx=>hb.same (hlt x (Kh _ hx))) (fun x hx=>hsp x (Kh _ hx)),
   q01 hl hb hr.2 h2 (fun x hx=>hlt x (Ke _ hx)) (fun x hx=>hsp x (Ke _ hx)),rfl⟩
theorem jg0{H:Type}{enc:TypeId×Value->H}{f:Func}{s:ChangeSpec}{apart fresh handsOn again:Bool}{W W' :World}{args:Array Value}{v:Value}{ds gs:List (DataW H)}{before pa pv:List MemPlace}
  (hW:DataW.Whole enc P f.params.toList s.vars apart W args.toList ds gs before)
  (hres:∀(b:Nat) (sp:Nat->Bool) (hd:Bool),DataW.TrodAll enc P W' b sp hd f.resultTypes.toList (v.resultList f.resultTypes.size) (s.fn H (ds++gs)).results [])
  (hargs:∀sp:Nat->Bool,(∀p∈before,sp p.block=true)->DataW.TrodAll enc P W' 0 sp true f.params.toList args.toList (s.fn H (ds++gs)).args pa)
  (hvars:∀sp:Nat->Bool,(∀p∈before,sp p.block=true)->DataW.TrodVars enc P W' sp s.vars (s.fn H (ds++gs)).vars pv)
  (hps:before=pa++pv) (hb:Below W.heap.size W W')
  (hok:∀(j:Nat) (t:TypeId) (r:Value),f.resultTypes[j]? =some t->(v.resultList f.resultTypes.size)[j]? =some r->Value.okWide P W' .any 0 t r):
  s.post enc P f apart fresh handsOn again W args v W' :=by
 have hlt:∀p∈before,p.block<W.heap.size:=fun p hp=>hW.lt p hp
 have hold:∀p∈before,(fun b=>decide (b<W.heap.size)) p.block=true:=fun p hp=>by simpa using hlt p hp
 refine⟨ds,gs,before,[],pa,pv,hW,hres _ _ _,hargs _ hold,hvars _ hold,World.keptBut_mono (fun p hp=>⟨hp,?_⟩) (hb.frame (·∈before)),fun _=> ?_⟩
 ·rw[hps,WS]at hp;exact Or.inr hp
 ·obtain⟨_,_,_,_,_,hz,hn⟩:=hW;refine⟨hok,_,_,([]++pa)++pv,⟨[]++pa,pv,trodAll_append (hargs _ (fun _ _=>rfl)) (hres _ _ _),hvars _ (fun _ _=>rfl),rfl,?_,?_⟩,?_⟩
  ·intro b off hp;have hin:MemPlace.cell b off∈before:=by rw[hps];simpa using hp
   rw[hb.frozen (hlt _ hin)];exact hz b off hin
  ·intro ha;have:=hn ha;rw[hps]at this;simpa using this
  ·intro p hp _;rw[hps];simpa using hp
theorem HR0(w:World)(ht:Tbo w (fun _=>none)):HR (fun _=>False) w (fun _=>none) (bt []) (vw []) w (fun _=>none):=by
 refine⟨(fun T T' g o o' h=>by cases h),(fun T p h=>by cases h),fun T v hv=> ?_,(fun T g o h=>by cases h),rfl,rfl,rfl,Wg _,(fun _ _ _=>rfl),(fun _ _=>rfl),(fun t g o _ h=>by cases h),fun b h=>h.elim,ht⟩;cases T<;>simp[vw]at hv
theorem jkx{H:Type}{enc:TypeId×Value->H}{F:FuncId}{f:Func}{s:ChangeSpec}{apart fresh handsOn again:Bool}{W:World}{args:Array Value}{ds:List (DataW H)}{before:List MemPlace}{rt:TypeId}{base:Nat}(hF:dq P tt)(ht:Tbo W (fun _=>none))
  {l:ShL} {m:l.den×na []->Option Bool} (hM:MdlOK P F (ar l [] [] 1 ⟨[(0, .d true .bool)],[]⟩ (fun(b:Bool)=>((b,()),())) m)) (har:q09 tt f.params.toList l=true) (htrue:∀a:l.den,l.good a->m (a,())=some true)
  (hl:laidOutB P=true) (hr:f.params.toList.all (fun t=>P.readableRec t&&decide (t<P.types.size))=true)
  (hv0:s.vars=[]) (hW:DataW.Whole enc P f.params.toList s.vars apart W args.toList ds [] before) (hA:DataW.TrodAll enc P W 0 (fun _=>true) true f.params.toList args.toList ds before)
  (hval:∀(j:Nat) t v,f.params[j]? =some t->args[j]? =some v->Value.okWide P W .any base t v)
  (hsr:(s.fn H (ds++[])).results=[.lit (.bool true)]) (hsa:(s.fn H (ds++[])).args=ds) (hsv:(s.fn H (ds++[])).vars=[]) (hrt:f.resultTypes= #[rt]) (hbt:P.underlying rt=some .bool):
  Calls P F args W fun e W' =>∃v,e= .returned v/\s.post enc P f apart fresh handsOn again W args v W' :=by
 obtain⟨a,ga,hc⟩:=jh0 hF f.params.toList l har args.toList ds before hA (fun j t v hj hv=>hval j t v (by simpa using hj) (by simpa using hv));have hrun:=hM.run (a,()) true (htrue a ga) (fun _=>False) W (fun _=>none) (HR0 W ht) args.toList hc;rw[Array.toArray_toList]at hrun;refine hrun.mono fun e W' => ?_
 rintro⟨v,J',rfl,hS,hV⟩;have hb:Below W.heap.size W W' :=⟨hS.os,hS.tape,hS.output,hS.size,fun k hk=>hS.blk k hk (by simp)⟩;have hv:v= .bool true:=hV;subst hv;refine⟨_,rfl,jg0 (pa:=before) (pv:=[]) hW ?_ ?_ ?_ (by simp) hb ?_⟩
 ·intro b sp hd;rw[hsr,hrt];exact trodAll_mk1 (shut_bool hbt true)
 ·intro sp hsp;rw[hsa];exact q01 hl hb hr hA (fun x hx=>hW.lt x hx) hsp
 ·intro sp hsp;rw[hsv,hv0];exact rfl
 ·exact ok_one hrt rfl (okWide_bool_mk hbt true)
theorem jam{H:Type}{enc:TypeId×Value->H}{W:World}{sp:Nat->Bool}{held:Bool}:∀{ts:List TypeId} {vs:List Value} {ds:List (DataW H)} {ps:List MemPlace},DataW.TrodAll enc P W 0 sp held ts vs ds ps->ds.length=ts.length
 |[],vs,ds,ps,h=>by obtain⟨_,rfl,_⟩:=trodAll_nil h;rfl
 |t::ts,vs,ds,ps,h=>by
  obtain⟨v,vs',d,ds',p,q,rfl,rfl,rfl,h1,h2⟩:=trodAll_cons h;simp[jam h2]
end
end Go.K
namespace Go.M
open Go.K
theorem qgp{α:Type}{c:Bool}(h:c=true)(m:Option α):al c m=m:=by subst h;rfl
theorem tw{α:Type}{c:Bool}(h:c=true)(a b:α):(bif c then a else b)=a:=by subst h;rfl
theorem qgo{α:Type}{c:Bool}(h:c=false)(a b:α):(bif c then a else b)=b:=by subst h;rfl
theorem j93{i:Nat}{n:Nat}(h:i<n):ix (i:Int) n=true:=by simp[ix,h]
theorem q39{n:Int}(h1: -9223372036854775808<=n)(h2:n<=9223372036854775807):dg .i64 n=true:=by simp only[dg,Wc,js1];exact⟨h1,h2⟩
theorem qdb{S E R:Type}{step:S->Option (LR S E R)}(st:Nat->S)(n:Nat)(hn:n<many)(p:Nat->Bool)(e:E)(r:R)
  (h:∀i,i<n->p i=true->step (st i)=some (.next (st (i+1)))) (hf:∀i,i<n->p i=false->step (st i)=some (.ret r)) (hd:step (st n)=some (.done e)):
  b9 step (st 0)=some (bif (List.range n).all p then .inl e else .inr r):=by
 by_cases hall:∀i,i<n->p i=true
 ·have:(List.range n).all p=true:=by simpa using hall
  rw[this];exact qrl st n hn (.inl e) (fun i hi=>h i hi (hall i hi)) hd
 ·have hex:∃i,i<n/\p i=false:=by
   refine KZ fun hne=>hall fun i hi=> ?_
   cases hp:p i with
   |true=>rfl
   |false=>exact absurd ⟨i,hi,hp⟩ hne
  have hmin:∃k,k<n/\p k=false/\∀i,i<k->p i=true:=by
   obtain⟨i,hi,hp⟩:=hex
   induction i using Nat.strongRecOn with
   |_ i ih=>
    by_cases hlow:∀j,j<i->p j=true
    ·exact⟨i,hi,hp,hlow⟩
    ·have:∃j,j<i/\p j=false:=by
      refine KZ fun hne=>hlow fun j hj=> ?_
      cases hq:p j with
      |true=>rfl
      |false=>exact absurd ⟨j,hj,hq⟩ hne
     obtain⟨j,hj,hq⟩:=this;exact ih j hj (by omega) hq
  obtain⟨k,hk,hp,hlow⟩:=hmin;have:(List.range n).all p=false:=by
   rw[List.all_eq_false];exact⟨k,by simpa using hk,by simp[hp]⟩
  rw[this];exact jdx st k (by omega) (.ret r) (.inr r) rfl (fun i hi=>h i (by omega) (hlow i hi)) (hf k hk hp)
theorem jp{S E R:Type}{step:S->Option (LR S E R)}(st:Nat->S)(n:Nat)(hn:n<many)(e:E)(h:∀i,i<n->step (st i)=some (.next (st (i+1))))(hd:step (st n)=some (.done e))(s:S)(hs:s=st 0):
  b9 step s=some (.inl e):=by
 subst hs;exact qrl st n hn (.inl e) h hd
theorem jo{α:Type}(xs:List α)(i:Nat)(d:α)(h:i<xs.length):xs.getD i d=xs[i]:=by simp[Wa,h]
def jrs{α:Type}(f:α->Int):List α->Int
 |[]=>0
 |x::l=>f x+jrs f l
theorem jaj{α:Type}(f:α->Int):∀l m:List α,jrs f (l++m)=jrs f l+jrs f m
 |[],m=>by simp[jrs]
 |x::l,m=>by simp only[Hu,jrs,jaj f l m];omega
theorem cw{α:Type}(l:List α)(i:Nat)(d:α)(h:i<l.length):l.take (i+1)=l.take i++[l.getD i d]:=by
 rw[List.take_add_one,jo l i d h];simp[h]
theorem kq{α:Type}{l:List α}{x:α}(d:α)(h:x∈l):∃i,i<l.length/\l.getD i d=x:=by
 obtain⟨i,hi,rfl⟩:=List.getElem_of_mem h;exact⟨i,hi,jo l i d hi⟩
theorem ay{α:Type}{l:List α}{i:Nat}(d:α)(h:i<l.length):l.getD i d∈l:=by
 rw[jo l i d h];exact Hb h
theorem j7d{α:Type}{i:Int}{n:Nat}{m:Option α}(h0:0<=i)(h1:i<(n:Int)):al (ix i n) m=m:=qgp (by simp[ix,h0,h1]) m
theorem jkc{α:Type}{e:Int}{m:Option α}(h0: -9223372036854775808<=e)(h1:e<=9223372036854775807):al (dg .i64 e) m=m:=qgp (q39 h0 h1) m
theorem jm6{α:Type}{n b:Nat}{m:Option α}(h0:n<=9223372036854775807)(h1:n*b<=140737488355328):al (room n b) m=m:=qgp (by simp[room,h0,h1]) m
theorem j1r{α:Type}{l h:Int}{n:Nat}{m:Option α}(h0:0<=l)(h1:l<=h)(h2:h<=(n:Int)):al (cut l h n) m=m:=qgp (by simp[cut,h0,h1,h2]) m
theorem j7e{α:Type}{l c:Int}{b:Nat}{m:Option α}(h0:0<=l)(h1:l<=c)(h2:(b:Int)*c<=281474976710656)(h3:c<=9223372036854775807):al (qub l c b) m=m:=qgp (by simp[qub,h0,h1,h2,h3]) m
theorem j7f{α:Type}{a b:Int}{m:Option α}(h:a≠b):al (!decide (a=b)) m=m:=qgp (by simp[h]) m
theorem jp2{α:Type}{a b:Int}{x y:α}(h:a<b):(bif decide (a<b)then x else y)=x:=tw (by simp[h]) x y
theorem jj7{α:Type}{a b:Int}{x y:α}(h:b<=a):(bif decide (a<b)then x else y)=y:=qgo (by simp;omega) x y
theorem jj4{α:Type}{a b:Int}{x y:α}(h:a<=b):(bif decide (a<=b)then x else y)=x:=tw (by simp[h]) x y
theorem jj6{α:Type}{a b:Int}{x y:α}(h:b<a):(bif decide (a<=b)then x else y)=y:=qgo (by simp;omega) x y
theorem jxc{α:Type}{a b:Int}{x y:α}(h:a=b):(bif decide (a=b)then x else y)=x:=tw (by simp[h]) x y
theorem jj5{α:Type}{a b:Int}{x y:α}(h:a≠b):(bif decide (a=b)then x else y)=y:=qgo (by simp[h]) x y
theorem j66{α:Type}{a b:Int}{x y:α}(h:a≠b):(bif !decide (a=b)then x else y)=x:=tw (by simp[h]) x y
theorem j1n{α:Type}{a b:Int}{x y:α}(h:a=b):(bif !decide (a=b)then x else y)=y:=qgo (by simp[h]) x y
theorem jb3{α:Type}{c:Bool}{x y:α}:(bif !c then x else y)=(bif c then y else x):=by cases c<;>rfl
theorem qyb{α:Type}{x y:α}:(bif true then x else y)=x:=rfl
theorem jc2{α:Type}{x y:α}:(bif false then x else y)=y:=rfl
end Go.M
namespace Go.M
open Go.K
theorem bm{n:Nat}(h:n<=9223372036854775807):n<many:=by unfold many;omega
theorem am(i:Nat):((i:Int)+1)=((i+1:Nat):Int):=by omega
theorem zx{α:Type}{m:Option α}:al true m=m:=rfl
abbrev bv{α:Type}(N:Nat)(f:Nat->α):List α:=(List.range N).map f
theorem qyv{α:Type}(N:Nat)(f:Nat->α):(bv N f).length=N:=by simp[bv]
theorem qx2{α:Type}{N:Nat}{f:Nat->α}{v:Nat}{d:α}(h:v<N):(bv N f).getD v d=f v:=by simp[bv,Wa,h]
theorem qcu{α:Type}{N:Nat}{f g:Nat->α}(h:∀v,v<N->f v=g v):bv N f=bv N g:=Hz fun v hv=>h v (Kk.1 hv)
theorem qyw{α:Type}{N:Nat}{f:Nat->α}{w:Nat}{x:α}:(bv N f).set w x=bv N (fun v=>if v=w then x else f v):=by
 refine List.ext_getElem (by simp[bv]) fun i h1 h2=> ?_
 simp only[List.getElem_set,bv,List.getElem_map,List.getElem_range];by_cases e:i=w
 ·simp[e]
 ·simp[e,Ko e]
theorem qsf{α:Type}(N:Nat)(x:α):List.replicate N x=bv N (fun _=>x):=by
 refine List.ext_getElem (by simp[bv]) fun i h1 h2=> ?_
 simp[bv]
theorem jw7{α:Type}(l:List α)(d:α)(p:α->Bool):(List.range l.length).all (fun i=>p (l.getD i d))=l.all p:=by
 rw[Ki,Kt,Kt];constructor
 ·intro h x hx;obtain⟨i,hi,rfl⟩:=kq d hx;exact h i (Kk.2 hi)
 ·intro h i hi;exact h _ (ay d (Kk.1 hi))
end Go.M
namespace Go.M
open Go.K
def pc{α:Type}(q:α->Bool):List α->Option Nat
 |[]=>none
 |a::l=>bif q a then some 0 else(pc q l).map (·+1)
def jvb{α:Type}(q:α->Bool)(l:List α):Int:=match pc q l with|some i=>(i:Int)|none=> -1
theorem qcb{α:Type}{q:α->Bool}(d:α):∀{l:List α} {i:Nat},pc q l=some i->i<l.length/\q (l.getD i d)=true/\∀j,j<i->q (l.getD j d)=false
 |[],i,h=>by cases h
 |a::l,i,h=>by
  unfold pc at h;cases hq:q a with
  |true=>
   rw[hq]at h;cases h;exact⟨by simp,hq,fun j hj=>by omega⟩
  |false=>
   rw[hq]at h;cases hf:pc q l with
   |none=>rw[hf]at h;cases h
   |some k=>
    rw[hf]at h;cases h;obtain⟨h1,h2,h3⟩:=qcb d hf;refine⟨by simp;omega,h2,fun j hj=> ?_⟩;have hj' :j<k+1:=hj;cases j with
    |zero=>exact hq
    |succ j=>exact h3 j (by omega)
theorem qjt{α:Type}{q:α->Bool}:∀{l:List α},pc q l=none->∀x∈l,q x=false
 |[],_,x,hx=>by simp at hx
 |a::l,h,x,hx=>by
  unfold pc at h;cases hq:q a with
  |true=>rw[hq]at h;cases h
  |false=>
   rw[hq]at h;cases hf:pc q l with
   |some k=>rw[hf]at h;cases h
   |none=>
    rcases Wr.1 hx with rfl|hx
    ·exact hq
    ·exact qjt hf x hx
theorem jst{α:Type}{q:α->Bool}(d:α):∀{l:List α} {i:Nat},i<l.length->q (l.getD i d)=true->(∀j,j<i->q (l.getD j d)=false)->pc q l=some i
 |[],i,h,_,_=>by simp at h
 |a::l,0,_,h,_=>by
  have h' :q a=true:=h;unfold pc;rw[h'];rfl
 |a::l,i+1,hi,h,h0=>by
  have h' :q a=false:=h0 0 (by omega);unfold pc;rw[h',jst (q:=q) d (l:=l) (i:=i) (by simp at hi;omega) h fun j hj=>h0 (j+1) (by omega)];rfl
theorem jdh{α:Type}(q:α->Bool):∀l:List α,(pc q l).isSome=l.any q
 |[]=>rfl
 |a::l=>by
  unfold pc;rw[List.any_cons,<-jdh q l];cases q a with
  |true=>rfl
  |false=>cases pc q l<;>rfl
theorem jb8{α:Type}(q:α->Bool)(l:List α):decide ((0:Int)<=jvb q l)=l.any q:=by
 rw[<-jdh];unfold jvb;cases pc q l with
 |none=>rfl
 |some i=>simp
def jqi{Rr:Type}(g:Nat->Rr):Option Nat->Unit⊕Rr
 |some i=> .inr (g i)
 |none=> .inl ()
theorem j0d{α:Type}{b:Bool}{x y:α}:(bif b then some x else some y)=some (bif b then x else y):=by cases b<;>rfl
theorem qju{α Rr:Type}{step:Int->Option (LR Int Unit Rr)}(l:List α)(d:α)(q:α->Bool)(g:Nat->Rr)(hl:l.length<=9223372036854775806)
  (h:∀i:Nat,i<l.length->step (i:Int)=some (bif q (l.getD i d)then .ret (g i)else .next ((i+1:Nat):Int))) (hd:step (l.length:Int)=some (.done ())):
  b9 step 0=some (jqi g (pc q l)):=by
 cases hf:pc q l with
 |none=>
  refine qrl (fun i:Nat=>(i:Int)) l.length (by unfold many;omega) (.inl ()) (fun i hi=> ?_) hd;rw[h i hi,qjt hf _ (ay d hi)];rfl
 |some k=>
  obtain⟨h1,h2,h3⟩:=qcb d hf;refine jdx (fun i:Nat=>(i:Int)) k (by unfold many;omega) (.ret (g k)) (.inr (g k)) rfl (fun i hi=> ?_) ?_
  ·rw[h i (by omega),h3 i hi];rfl
  ·rw[h k h1,h2];rfl
theorem jdw{α Rr:Type}{step:Int->Option (LR Int Unit Rr)}(l:List α)(d:α)(q:α->Bool)(c:Rr)(hl:l.length<=9223372036854775806)
  (h:∀i:Nat,i<l.length->step (i:Int)=some (bif q (l.getD i d)then .ret c else .next ((i+1:Nat):Int))) (hd:step (l.length:Int)=some (.done ())):
  b9 step 0=some (bif l.any q then .inr c else .inl ()):=by
 rw[qju l d q (fun _=>c) hl h hd,<-jdh];cases pc q l<;>rfl
theorem q36{α:Type}(q:α->Bool)(l:List α):lk (jqi (fun i=>(i:Int)) (pc q l)) (fun _=>some (-1:Int)) (fun r=>some r)=some (jvb q l):=by
 unfold jvb;cases pc q l<;>rfl
end Go.M
namespace Go.K
open Go.M Go.RowKit
def zc2:Nat->Nat->List Bool
 |0,_=>[]
 |k+1,n=>bif Nat.ble n 1 then []else Nat.beq (n % 2) 1::zc2 k (n/2)
def jc(f:Func)(p:Nat):Code:=jrr (qba f) (zc2 80 p)
def lc(id:Nat)(f:Func)(p:Nat):Code:= .block id (.loop (jc f p))
section
variable {P : Program} {tt : TT} {Rf : Type}
structure CtxM (P : Program) (X : Ctx Rf) : Prop where
 ok : CtxOK P X
 mix : P.follows .mixedOrders = true
theorem m0:jcn P []:=trivial
theorem mC{f:FuncId}{M:Mdl}{l:List (FuncId×Mdl)}(h:MdlOK P f M)(t:jcn P l):jcn P ((f,M)::l):=⟨h,t⟩
theorem iy{N:Nat}{wr dt:Bool}{kp:List Bool}{l:List (FuncId×Mdl)}{Λ:Nat->Option (Summ Rf)}{res:TS->Option Rf}(hF:dq P tt)(hm:P.follows .mixedOrders=true)(h:jcn P l)(ht:∀t nm g lo,mtG t nm=some (g,lo)->qu8 P t nm g lo:=by intro _ _ _ _ h;cases h):CtxM P ⟨N,tt,wr,dt,kp,gp l,Λ,res⟩:=⟨⟨hF,j9z h.all,ht⟩,hm⟩
theorem s0{X:Ctx Rf}:qt5 P X []:=trivial
theorem sC{X:Ctx Rf}{i:Nat}{c:Code}{l:List (Nat×Code)}(h:a8 P X i c)(t:qt5 P X l):qt5 P X ((i,c)::l):=⟨h,t⟩
theorem lp{X:Ctx Rf}{n id:Nat}{f:Func}{p:Nat}{shI shE:Shp}{C S CE E:Type}{un:shI.den->C×S}{mkE:CE->E->shE.den}{pE:C->CE}
  {stepK:{R:Type}->C->S->(S->Option R)->(E->Option R)->(Rf->Option R)->Option R}
  (hΛ:X.Λ n=some (au Rf X.N X.kp shI un shE mkE pE stepK)) (hX:CtxM P X) (ann:Ann) {l:List (Nat×Code)} (hl:qt5 P X l) (mk:C->S->shI.den) (unE:shE.den->CE×E)
  (hs:qw (jc f p) ann=l:=by kernel_rfl) (hmk:∀x,mk (un x).1 (un x).2=x:=by intro _;kernel_rfl) (hmkE:∀y,mkE (unE y).1 (unE y).2=y:=by intro _;kernel_rfl)
  (hpar:∀(R:Type) (K:C->S->Option R) (D:CE->E->Option R) (T:Rf->Option R) (c:C) (a:S),
   den X (jc f p) ann (shI.enc (mk c a)) (fun s' =>match shI.dec X.N X.kp s' with|some x=>K (un x).1 (un x).2|none=>none)
    (fun id' s' =>bif Nat.beq id' id then(match shE.dec X.N X.kp s' with|some y=>D (unE y).1 (unE y).2|none=>none)else none) T=stepK c a (K c) (D (pE c)) T:=by intro R K D T c a;kernel_rfl):
  a8 P X n (lc id f p):=
 j2x hX.ok hX.mix (qt5.all hs hl) hΛ hmk hmkE hpar
theorem jn{X:Ctx Rf}{n:Nat}{f:Func}{p:Nat}{shI shE:Shp}{A CE E:Type}{un:shI.den->A}{mkE:CE->E->shE.den}{pE:A->CE}
  {stepK:{R:Type}->A->(E->Option R)->(Rf->Option R)->Option R}
  (hΛ:X.Λ n=some (qkk Rf X.N X.kp shI un shE mkE pE stepK)) (hX:CtxM P X) (ann:Ann) {l:List (Nat×Code)} (hl:qt5 P X l) (mk:A->shI.den) (unE:shE.den->CE×E)
  (hs:qw (jc f p) ann=l:=by kernel_rfl) (hmk:∀x,mk (un x)=x:=by intro _;kernel_rfl) (hmkE:∀y,mkE (unE y).1 (unE y).2=y:=by intro _;kernel_rfl)
  (hpar:∀(R:Type) (D:CE->E->Option R) (T:Rf->Option R) (a:A),
   den X (jc f p) ann (shI.enc (mk a)) (fun s' =>match shE.dec X.N X.kp s' with|some y=>D (unE y).1 (unE y).2|none=>none) (fun _ _=>none) T=stepK a (D (pE a)) T:=by intro R D T c;kernel_rfl):
  a8 P X n (jc f p):=
 j2k hX.ok hX.mix (qt5.all hs hl) hΛ hmk hmkE hpar
theorem jf{f:FuncId}{fn:Func}(hf:P.funcs[f]? =some fn){B:Type}{X:Ctx B}{rs:List ResultVar}{l:ShL}{objs:List Hs}{sh:Shp}{un:sh.den->B}{mk:B->sh.den}{m:l.den×na objs->Option B}
  (hres:X.res=bx X.N X.tt X.kp rs sh un) (hX:CtxM P X) (ann:Ann) {sl:List (Nat×Code)} (hsl:qt5 P X sl)
  (hname:(fn.name== "runtime.NumGoroutine")=false:=by kernel_rfl) (hb:fn.body=some (qba fn):=by kernel_rfl) (hN:fn.ntmps=X.N:=by kernel_rfl)
  (hrs:fn.results=rs.toArray:=by kernel_rfl) (hmk:∀x,mk (un x)=x:=by intro _;kernel_rfl) (hs:qw (qba fn) ann=sl:=by kernel_rfl) (hl:Nat.ble l.len X.N=true:=by kernel_rfl) (hfr:sh.frB=true:=by kernel_rfl)
  (hden:∀a,den X (qba fn) ann ⟨qmh 0 (l.enc a.1),du objs a.2⟩ X.res (fun _ _=>none) some=m a:=by intro a;kernel_rfl):MdlOK P f (ar l objs X.kp rs.length sh mk m):=
 zcv hf hname hb hN hrs hmk hres hX.ok hX.mix (qt5.all hs hsl) (Ky hl) hfr hden
theorem zcu{f:FuncId}{fn:Func}(hf:P.funcs[f]? =some fn){B1 B2:Type}{X:Ctx (B1⊕B2)}{rs:List ResultVar}{l:ShL}{objs:List Hs}{sh1 sh2:Shp}{un1:sh1.den->B1}{un2:sh2.den->B2}{mk1:B1->sh1.den}{mk2:B2->sh2.den}{m:l.den×na objs->Option (B1⊕B2)}
  (hres:X.res=jiy X.N X.tt X.kp rs sh1 sh2 un1 un2) (hX:CtxM P X) (ann:Ann) {sl:List (Nat×Code)} (hsl:qt5 P X sl)
  (hname:(fn.name== "runtime.NumGoroutine")=false:=by kernel_rfl) (hb:fn.body=some (qba fn):=by kernel_rfl) (hN:fn.ntmps=X.N:=by kernel_rfl)
  (hrs:fn.results=rs.toArray:=by kernel_rfl) (hmk1:∀x,mk1 (un1 x)=x:=by intro _;kernel_rfl) (hmk2:∀x,mk2 (un2 x)=x:=by intro _;kernel_rfl) (hs:qw (qba fn) ann=sl:=by kernel_rfl) (hl:Nat.ble l.len X.N=true:=by kernel_rfl) (hfr1:sh1.frB=true:=by kernel_rfl) (hfr2:sh2.frB=true:=by kernel_rfl)
  (hden:∀a,den X (qba fn) ann ⟨qmh 0 (l.enc a.1),du objs a.2⟩ X.res (fun _ _=>none) some=m a:=by intro a;kernel_rfl):MdlOK P f (jk4 l objs X.kp rs.length sh1 sh2 mk1 mk2 m):=
 j9w hf hname hb hN hrs hmk1 hmk2 hres hX.ok hX.mix (qt5.all hs hsl) (Ky hl) hfr1 hfr2 hden
end
end Go.K
namespace Go.K
open Go.M
theorem rs:
  (∀{α:Type} {i:Int} {n:Nat} {m:Option α},0<=i->i<(n:Int)->al (ix i n) m=m)/\
  (∀{α:Type} {e:Int} {m:Option α},-9223372036854775808<=e->e<=9223372036854775807->al (dg .i64 e) m=m)/\
  (∀{α:Type} {n b:Nat} {m:Option α},n<=9223372036854775807->n*b<=140737488355328->al (room n b) m=m)/\
  (∀{α:Type} {l h:Int} {n:Nat} {m:Option α},0<=l->l<=h->h<=(n:Int)->al (cut l h n) m=m)/\
  (∀{α:Type} {l c:Int} {b:Nat} {m:Option α},0<=l->l<=c->(b:Int)*c<=281474976710656->c<=9223372036854775807->al (qub l c b) m=m)/\
  (∀{α:Type} {a b:Int} {m:Option α},a≠b->al (!decide (a=b)) m=m)/\
  (∀{α:Type} {a b:Int} {x y:α},a<b->(bif decide (a<b)then x else y)=x)/\
  (∀{α:Type} {a b:Int} {x y:α},b<=a->(bif decide (a<b)then x else y)=y)/\
  (∀{α:Type} {a b:Int} {x y:α},a<=b->(bif decide (a<=b)then x else y)=x)/\
  (∀{α:Type} {a b:Int} {x y:α},b<a->(bif decide (a<=b)then x else y)=y)/\
  (∀{α:Type} {a b:Int} {x y:α},a=b->(bif decide (a=b)then x else y)=x)/\
  (∀{α:Type} {a b:Int} {x y:α},a≠b->(bif decide (a=b)then x else y)=y)/\
  (∀{α:Type} {a b:Int} {x y:α},a≠b->(bif !decide (a=b)then x else y)=x)/\
  (∀{α:Type} {a b:Int} {x y:α},a=b->(bif !decide (a=b)then x else y)=y)/\
  (∀{α:Type} {c:Bool} {x y:α},(bif !c then x else y)=(bif c then y else x))/\
  (∀{α:Type} {x y:α},(bif true then x else y)=x)/\(∀{α:Type} {x y:α},(bif false then x else y)=y)/\
  (∀{α β:Type} (a:α) (k:α->Option β),bnd (some a) k=k a)/\
  (∀{E R β:Type} (e:E) (k1:E->β) (k2:R->β),lk (.inl e) k1 k2=k1 e)/\(∀{E R β:Type} (e:R) (k1:E->β) (k2:R->β),lk (.inr e) k1 k2=k2 e)/\
  (∀n:Nat,Int.toNat (n:Int)=n)/\(∀h:Decidable True,@decide True h=true):=
 ⟨j7d,jkc,jm6,j1r,j7e,j7f,jp2,jj7,jj4,jj6,jxc,jj5,j66,j1n,jb3,qyb,jc2,df,q7m,j99,WN,fun h=> @decide_true h⟩
end Go.K
namespace Go.K
open Go.M Go.RowKit
theorem jgd(T:TG):vw [] T=none:=by
 cases T<;>rfl
theorem jie{P:Program}{f:FuncId}{fn:Func}(hf:P.funcs[f]? =some fn)(hname:(fn.name== "runtime.NumGoroutine")=false)(hb:fn.body.isNone=false){l:ShL}{m:l.den×na []->Option ByteArray}
  (h:∀a b,m a=some b->∀(G:Gr) (vs:List Value),(∀g c,jru g=some c->∃e f,G.w.heap[g]? =some (.cells c e f))->gf G (l.enc a.1) vs->Calls P f vs.toArray G.w fun e w' =>e= .returned (.string b)/\Below G.w.heap.size G.w w'):
  MdlOK P f (ar l [] [] 1 ⟨[(0, .d true .str)],[]⟩ (B:=ByteArray) (fun b=>((b,()),())) m):=by
 refine⟨⟨fn,hf,hname,hb⟩,fun a b hm U w J hHR vs hvs=> ?_,q4l,fun a b _=>qyj (by rfl) a b,fun _ _ _ _ h=>h⟩;have hJ:∀T,J T=none:=fun T=>by
  cases hq:J T with
  |none=>rfl
  |some p=>
   obtain⟨v,hv⟩:=hHR.dom T p hq;have hv:vw [] T=some v:=hv;rw[jgd]at hv;cases hv
 refine(h a b hm (gr U (vw []) w J) vs (fun g c hc=>(hHR.tb g c hc).1) hvs).mono ?_;rintro e w' ⟨rfl,hB⟩;refine⟨_,J,rfl,⟨hHR.inj,hHR.dom,fun T v hv=> ?_,fun T g o hT=> ?_,hB.os,hB.tape,hB.output,hB.size,fun k hk _=>hB.block k hk,fun _ _=>rfl,fun t g o _ ht=> ?_,hHR.ulow,hHR.tb0⟩,rfl⟩
 ·have hv:vw [] T=some v:=hv;rw[jgd]at hv;cases hv
 ·rw[hJ]at hT;cases hT
 ·rw[hJ]at ht;cases ht
end Go.K
namespace Go.K
open Go.M Go.RowKit
end Go.K
namespace Go.K
open Go.M Go.RowKit
structure Same (w w' : World) : Prop where
 size : w.heap.size <= w'.heap.size
 cells : ∀ (b : Nat) cur e z, w.heap[b]? = some (.cells cur e z) -> w'.heap[b]? = some (.cells cur e z)
 map : ∀ (b : Nat) es c, w.heap[b]? = some (.map es c) -> w'.heap[b]? = some (.map es c)
theorem Same.cell{w w' :World}(h:Same w w'){p:Addr}{u:Value}(hc:w.cell? p=some u):w'.cell? p=some u:=by
 unfold World.cell? at hc⊢;split at hc
 ·rename_i cur e z hq;rw[h.cells _ _ _ _ hq];exact hc
 ·cases hc
mutual
theorem Ty.C_same{w w' :World}(h:Same w w'){Y:Nat->Prop}:∀(t:Ty) (x:t.den) (f:Nat) (v:Value),Ty.C w Y t x f v->Ty.C w' Y t x f v
 | .int _,_,_,_,hv=>hv
 | .bool,_,_,_,hv=>hv
 | .str,_,_,_,hv=>hv
 | .slice t,xs,_,v,hv=>by
  obtain⟨a,c,hv,hn,hc,hr⟩:=hv;refine⟨a,c,hv,hn,hc,fun h0=> ?_⟩;obtain⟨b,o,ha,hb,hY,hcell⟩:=hr h0;refine⟨b,o,ha,WL hb h.size,hY,fun i f hi hf=> ?_⟩;obtain⟨u,hu,h1,hC⟩:=hcell i f hi hf;exact⟨u,h.cell hu,h1,Ty.C_same h t _ f u hC⟩
 | .struct l,x,f,v,hv=>TyL.C_same h l x f v hv
 | .tree l m,x,f,v,hv=>TrC.imp (fun b hb hY=>⟨WL hb h.size,hY⟩) (fun b o u _ _ hu=>h.cell hu) (fun a f v hv=>by
   split at hv<;>rename_i e
   ·rw[if_pos e];exact TyL.C_same h l _ f v hv
   ·rw[if_neg e];exact TyL.C_same h m _ _ v hv) x f v hv
theorem TyL.C_same{w w' :World}(h:Same w w'){Y:Nat->Prop}:∀(l:TyL) (x:l.den) (f:Nat) (v:Value),TyL.C w Y l x f v->TyL.C w' Y l x f v
 | .nil,_,_,_,hv=>hv
 | .cons t l,x,f,v,hv=>by
  unfold TyL.C at hv⊢;split
  ·rename_i hlt;rw[if_pos hlt]at hv;exact Ty.C_same h t _ f v hv
  ·rename_i hge;rw[if_neg hge]at hv;exact TyL.C_same h l _ _ v hv
end
theorem q04.same{w w' :World}(h:Same w w'){Y:Nat->Prop}{kt vt:Ty}{es:List (kt.den×vt.den)}{v:Value}(hr:q04 w Y kt vt es v):q04 w' Y kt vt es v:=by
 rcases hr with hr|⟨g,hs,c,hv,hg,hY,hh,hst,hl,hc⟩
 ·exact .inl hr
 ·refine .inr ⟨g,hs,c,hv,WL hg h.size,hY,h.map _ _ _ hh,hst,hl,fun i e p he hp=> ?_⟩;obtain⟨h1,h2⟩:=hc i e p he hp;exact⟨h1,Ty.C_same h vt _ 0 _ h2⟩
theorem SlR.same{w w' :World}(h:Same w w'){J:Pl}{T:TG}{sz off n:Nat}{v:Value}(hs:SlR w J T sz off n v):SlR w' J T sz off n v:=by
 rcases hs with hs|⟨g,o,c,cur,e,hJ,hv,hn,hc,hh,hz⟩
 ·exact .inl hs
 ·exact .inr ⟨g,o,c,cur,e,hJ,hv,hn,hc,h.cells _ _ _ _ hh,hz⟩
mutual
theorem VR.same{w w' :World}(h:Same w w'){X U:Nat->Prop}{J I:Pl}:∀(A:TV) (v:Value),VR ⟨w,X,U,J,I⟩ A v->VR ⟨w',X,U,J,I⟩ A v
 | .any,v,hv=>trivial
 | .int _ _,v,hv=>hv
 | .bool _,v,hv=>hv
 | .val _,v,hv=>hv
 | .e0,v,hv=>hv
 | .sl fr t xs,v,hv=>Ty.C_same h (.slice t) xs 0 v hv
 | .rptr fr t xs i f,v,hv=>by
  obtain⟨b,o,hv,hb,hY,hcell⟩:=hv;refine⟨b,o,hv,WL hb h.size,hY,fun i f hi hf=> ?_⟩;obtain⟨u,hu,h1,hC⟩:=hcell i f hi hf;exact⟨u,h.cell hu,h1,Ty.C_same h t _ f u hC⟩
 | .own T,v,hv=>by
  obtain⟨n,sz,hI,hs⟩:=hv;exact⟨n,sz,hI,SlR.same h hs⟩
 | .ownS T off m,v,hv=>by
  obtain⟨n,sz,hI,hle,hs⟩:=hv;exact⟨n,sz,hI,hle,SlR.same h hs⟩
 | .ptr T i f,v,hv=>hv
 | .mp T,v,hv=>hv
 | .dm fr kt vt es,v,hv=>q04.same h hv
 | .fn f cs,v,hv=>by
  obtain⟨l,hl,hc⟩:=hv;exact⟨l,hl,gf.same h cs l hc⟩
 | .agg cs,v,hv=>by
  obtain⟨l,hl,hc,h1⟩:=hv;exact⟨l,hl,gf.same h cs l hc,h1⟩
 | .tup cs,v,hv=>by
  obtain⟨l,hl,hc⟩:=hv;exact⟨l,hl,gf.same h cs l hc⟩
 | .cond c a,v,hv=>by
  unfold VR at hv⊢;split
  ·rename_i hc;rw[if_pos hc]at hv;exact VR.same h a v hv
  ·rename_i hc;rw[if_neg hc]at hv;exact hv
 | .nl _ a,v,hv=>⟨VR.same h a v hv.1,hv.2⟩
theorem gf.same{w w' :World}(h:Same w w'){X U:Nat->Prop}{J I:Pl}:∀(cs:List TV) (l:List Value),gf ⟨w,X,U,J,I⟩ cs l->gf ⟨w',X,U,J,I⟩ cs l
 |[],l,hl=>hl
 |A::cs,l,hl=>by
  obtain⟨u,r,rfl,h1,h2⟩:=hl;exact⟨u,r,rfl,VR.same h A u h1,gf.same h cs r h2⟩
end
section
variable {U : Nat -> Prop} {w0 : World} {J0 : Pl} {K : Nat -> Bool} {N : Nat}
theorem OR.same{w w' :World}(h:Same w w'){X U:Nat->Prop}{J I:Pl}{p:Option (Nat×Nat)}{v:Vw}(ho:OR ⟨w,X,U,J,I⟩ p v):OR ⟨w',X,U,J,I⟩ p v:=by
 cases p with
 |none=>exact ho
 |some p=>
  obtain⟨g,o⟩:=p;rcases ho with⟨hp0,cur,c,hh,hsz,hle,hcell⟩|⟨h1,h2,es,k,hh,hm⟩
  ·refine .inl ⟨hp0,cur,c,h.cells _ _ _ _ hh,hsz,hle,fun i f hi hf=> ?_⟩;obtain⟨u,hu,h1,hV⟩:=hcell i f hi hf;exact⟨u,hu,h1,VR.same h _ u hV⟩
  ·exact .inr ⟨h1,h2,es,k,h.map _ _ _ hh,hm.sb (θ:=fun _=> .id) (fun i f=>(TV.sb_id _).symm) fun i u hu=>VR.same h _ u hu⟩
theorem HR.same{V:TG->Option Vw}{w w' :World}{J:Pl}(h:HR U w0 J0 K V w J)(hs:Same w w')(h1:w'.os=w.os)(h2:w'.tape=w.tape)(h3:w'.output=w.output)(hb:∀b,b<w0.heap.size->w'.heap[b]? =w.heap[b]?):HR U w0 J0 K V w' J:=
 ⟨h.inj,h.dom,fun T v hv=>OR.same hs (h.obj T v hv),h.own,h1.trans h.os,h2.trans h.tape,h3.trans h.output,Kb h.size hs.size,fun b hb0 hn=>(hb b hb0).trans (h.blk b hb0 hn),h.keep,fun t g o ht hg cur e hc=>by
  obtain⟨cur',a1,a2⟩:=h.ksz t g o ht hg cur e hc;exact⟨cur',hs.cells _ _ _ _ a1,a2⟩,h.ulow,h.tb0⟩
theorem ARel.same{S:Nat->TV}{V:TG->Option Vw}{a:Act}{w w' :World}{J:Pl}(h:ARel U w0 J0 K N S V a w J)(hs:Same w w')(h1:w'.os=w.os)(h2:w'.tape=w.tape)(h3:w'.output=w.output)(hb:∀b,b<w0.heap.size->w'.heap[b]? =w.heap[b]?):ARel U w0 J0 K N S V a w' J:=
 ⟨h.defers,h.len,fun t ht=>by obtain⟨v,hv,hV⟩:=h.slot t ht;exact⟨v,hv,VR.same hs _ v hV⟩,h.hr.same hs h1 h2 h3 hb⟩
theorem HR.rebase{V:TG->Option Vw}{w:World}{J:Pl}(h:HR U w0 J0 K V w J):HR U w J K V w J:=
 ⟨h.inj,h.dom,h.obj,fun T g o hT=>⟨(h.own T g o hT).1, .inr ⟨T,o,hT⟩⟩,rfl,rfl,rfl,Wg _,fun _ _ _=>rfl,fun _ _=>rfl,fun _ _ _ _ _ cur _ hc=>⟨cur,hc,rfl⟩,fun b hb=>WL (h.ulow b hb) h.size,h.tb⟩
theorem HR.comp{V V' :TG->Option Vw}{w w' :World}{J J' :Pl}(h:HR U w0 J0 K V w J)(h' :HR U w J K V' w' J'):HR U w0 J0 K V' w' J' :=by
 refine⟨h'.inj,h'.dom,h'.obj,fun T g o hT=>⟨(h'.own T g o hT).1,?_⟩,h'.os.trans h.os,h'.tape.trans h.tape,h'.output.trans h.output,Kb h.size h'.size,fun b hb hn=> ?_,fun t ht=>(h'.keep t ht).trans (h.keep t ht),fun t g o ht hg cur e hc=> ?_,h.ulow,h.tb0⟩
 ·rcases(h'.own T g o hT).2 with h1|⟨T',o',h1⟩
  ·exact .inl (Kb h.size h1)
  ·exact(h.own T' g o' h1).2
 ·refine(h'.blk b (WL hb h.size) fun T o hT=> ?_).trans (h.blk b hb hn);rcases(h.own T b o hT).2 with h1|⟨T',o',h1⟩
  ·omega
  ·exact hn T' o' h1
 ·obtain⟨cur1,a1,a2⟩:=h.ksz t g o ht hg cur e hc;obtain⟨cur2,b1,b2⟩:=h'.ksz t g o ht (by rw[h.keep t ht];exact hg) cur1 e a1;exact⟨cur2,b1,b2.trans a2⟩
theorem ARel.rebase{S:Nat->TV}{V:TG->Option Vw}{a:Act}{w:World}{J:Pl}(h:ARel U w0 J0 K N S V a w J):ARel U w J K N S V a w J:=⟨h.defers,h.len,h.slot,h.hr.rebase⟩
theorem ARel.comp{S' :Nat->TV}{V V' :TG->Option Vw}{a' :Act}{w w' :World}{J J' :Pl}(h:HR U w0 J0 K V w J)(h' :ARel U w J K N S' V' a' w' J'):ARel U w0 J0 K N S' V' a' w' J' :=⟨h'.defers,h'.len,h'.slot,h.comp h'.hr⟩
theorem HR.lowY{V V' :TG->Option Vw}{w w' :World}{J J' :Pl}(h' :HR U w J K V' w' J')(h:HR U w J K V w J)(fr:Bool):Low w (YY (da J) U fr) w' (YY (da J') U fr):=by
 refine⟨h'.size,fun b hb hY hY' =>hY ?_,fun b hb hY=>h'.blk b hb fun T o hT=>hY (.inl ⟨T,o,hT⟩)⟩;rcases hY' with⟨T,o,hT⟩|e
 ·rcases(h'.own T b o hT).2 with h1|⟨T',o',h1⟩
  ·omega
  ·exact .inl ⟨T',o',h1⟩
 ·exact .inr e
theorem HR.kind{V:TG->Option Vw}{w:World}{J:Pl}(h:HR U w0 J0 K V w J){T:TG}{b o:Nat}(hT:J T=some (b,o)):(∃cur e,w.heap[b]? =some (.cells cur e (0,0)))\/∃es c,w.heap[b]? =some (.map es c):=by
 obtain⟨v,hv⟩:=h.dom T _ hT;have:=h.obj T v hv;rw[hT]at this;rcases this with⟨_,cur,c,hh,_⟩|⟨_,_,es,k,hh,_⟩
 ·exact .inl ⟨_,_,hh⟩
 ·exact .inr ⟨_,_,hh⟩
end
def qim{S E Rf:Type}(B:S->E->Option (S⊕Rf)):List E->S->Option (S⊕Rf)
 |[],s=>some (.inl s)
 |e::l,s=>match B s e with|some (.inl s')=>qim B l s' |some (.inr r)=>some (.inr r)|none=>none
theorem q7g{S E Rf:Type}(B:S->E->Option (S⊕Rf)):∀(l l' :List E) (s:S),qim B (l++l') s=match qim B l s with|some (.inl s')=>qim B l' s' |r=>r
 |[],l',s=>rfl
 |e::l,l',s=>by
  simp only[Hu,qim];cases B s e with
  |none=>rfl
  |some y=>
   cases y with
   |inl s' =>exact q7g B l l' s'
   |inr r=>rfl
noncomputable def q5w{S E Rf R:Type}(F:List E->Option (S⊕Rf))(es:List E)(kn:S->Option R)(kr:Rf->Option R):Option R:=
 open Classical in if h:∃r,∀l:List E,l.Perm es->∃y,F l=some y/\lk y kn kr=some r then some h.choose else none
theorem qyr{S E Rf R:Type}{F:List E->Option (S⊕Rf)}{es:List E}{kn:S->Option R}{kr:Rf->Option R}{r:R}(h:q5w F es kn kr=some r):∀l:List E,l.Perm es->∃y,F l=some y/\lk y kn kr=some r:=by
 unfold q5w at h;split at h
 ·rename_i h1;cases h;exact h1.choose_spec
 ·cases h
theorem qyq{S E Rf R:Type}{F:List E->Option (S⊕Rf)}{es:List E}{kn:S->Option R}{kr:Rf->Option R}{r:R}(h:∀l:List E,l.Perm es->∃y,F l=some y/\lk y kn kr=some r):q5w F es kn kr=some r:=by
 have h1:∃r,∀l:List E,l.Perm es->∃y,F l=some y/\lk y kn kr=some r:=⟨r,h⟩;have h2:q5w F es kn kr=some h1.choose:=by unfold q5w;rw[dif_pos h1]
 obtain⟨y,a1,a2⟩:=h es (Kl _);obtain⟨y',b1,b2⟩:=h1.choose_spec es (Kl _);rw[h2];have:y=y' :=by rw[a1]at b1;exact Kp b1
 subst this;rw[a2]at b2;exact b2.symm
def jhk{E:Type}(hs:Array MapEntry)(es:List E)(seen:Array Nat):List E:=((hs.toList.zip es).filter fun p=> !seen.contains p.1.born).map (·.2)
theorem jrd{E:Type}{hs:Array MapEntry}{es:List E}(hl:hs.size=es.length):jhk hs es #[]=es:=by
 unfold jhk;rw[List.filter_eq_self.2 (fun p _=>by simp)];rw[List.map_snd_zip (by have:hs.toList.length=hs.size:=WO;omega)]
theorem jh9{E:Type}(seen:Array Nat)(e:MapEntry)(p:E):∀(Z:List (MapEntry×E)),(Z.map (·.1.born)).Nodup->(e,p)∈Z->seen.contains e.born=false->
  (Z.filter fun z=> !seen.contains z.1.born).Perm ((e,p)::Z.filter fun z=> !(seen.push e.born).contains z.1.born)
 |[],_,h,_=>by simp at h
 |z::Z,hn,h,hs=>by
  simp only[Kd,HM]at hn;rcases Wr.1 h with rfl|h
  ·have e1:(Z.filter fun z=> !seen.contains z.1.born)=Z.filter fun z=> !(seen.push e.born).contains z.1.born:=by
    refine List.filter_congr fun z hz=> ?_
    have:z.1.born≠e.born:=fun he=>hn.1 (WG.2 ⟨z,hz,he⟩)
    rw[contains_push,beq_false_of_ne this,Bool.or_false]
   rw[K6 (by simpa using hs),KQ (by rw[contains_push];simp),e1]
  ·have hne:z.1.born≠e.born:=fun he=>hn.1 (WG.2 ⟨(e,p),h,he.symm⟩)
   have ih:=jh9 seen e p Z hn.2 h hs;have hc:(seen.push e.born).contains z.1.born=seen.contains z.1.born:=by rw[contains_push,beq_false_of_ne hne,Bool.or_false]
   cases hz:seen.contains z.1.born with
   |true=>
    rw[KQ (by simpa using hz),KQ (by rw[hc];simpa using hz)];exact ih
   |false=>
    rw[K6 (by simpa using hz),K6 (by rw[hc];simpa using hz)];exact(ih.cons z).trans (List.Perm.swap _ _ _)
theorem jv0{E:Type}{hs:Array MapEntry}{es:List E}{c:Nat}(hst:Stp hs c)(hl:hs.size=es.length){seen:Array Nat}{e:MapEntry}(he:e∈(leftOf hs seen).toList):
  ∃(i:Nat) (p:E),hs[i]? =some e/\es[i]? =some p/\(jhk hs es seen).Perm (p::jhk hs es (seen.push e.born)):=by
 obtain⟨h1,h2⟩:=mem_left he;obtain⟨i,hi⟩:=List.getElem?_of_mem h1;have hi' :hs[i]? =some e:=by simpa using hi
 have hlt:i<es.length:=by
  have:=(W4.1 hi').1;omega
 refine⟨i,es[i],hi',Wi hlt,?_⟩;have hm:(e,es[i])∈hs.toList.zip es:=WV (i:=i) (by
  rw[List.getElem?_zip_eq_some];exact⟨hi,Wi hlt⟩)
 have hz:((hs.toList.zip es).map (·.1.born)).Nodup:=by
  have:(hs.toList.zip es).map (·.1.born)=hs.toList.map (·.born):=by
   rw[show(fun z:MapEntry×E=>z.1.born)=(fun x:MapEntry=>x.born)∘Prod.fst from rfl,<-Hx,List.map_fst_zip (by have:hs.toList.length=hs.size:=WO;omega)]
  rw[this];exact hst.2
 exact(jh9 seen e es[i] _ hz hm h2).map _
theorem jvz{E:Type}{hs:Array MapEntry}{es:List E}{seen:Array Nat}(h:(leftOf hs seen).size=0):jhk hs es seen=[]:=by
 unfold jhk;rw[List.filter_eq_nil_iff.2,KH];intro p hp;have:=all_seen hs seen h p.1 (List.of_mem_zip (show(p.1,p.2)∈hs.toList.zip es from hp)).1;rw[this]
 decide
end Go.K
namespace Go.K
open Go.M Go.RowKit
structure RngC where
 i1 : Nat
 pre : List Oper
 o0 : Oper
 id : Nat
 i2 : Nat
 o1 : Oper
 o2 : Oper
 b : Tmp
 id3 : Nat
 i3 : Nat
 o3 : Oper
 rest : List Oper
 body : Code
def RngC.head(p:RngC):Code:= .seq (.region p.i2 #[p.o1,p.o2] false) (.seq (.cond (.tmp p.b) .skip (.exit p.id)) (.block p.id3 (.seq (.region p.i3 (p.o3::p.rest).toArray false) p.body)))
def RngC.code(p:RngC):Code:= .seq (.region p.i1 (p.pre++[p.o0]).toArray false) (.block p.id (.loop p.head))
def q4c:List Oper->Oper
 |[]=>⟨none, .assign (.const undef),0, "",#[],none⟩
 |[o]=>o
 |_::l=>q4c l
def j4h:List Oper->List Oper
 |[]=>[]
 |[_]=>[]
 |o::l=>o::j4h l
def zfc:Code->RngC
 | .seq (.region i1 ops _) (.block id (.loop (.seq (.region i2 ops2 _) (.seq (.cond (.tmp b) _ _) (.block id3 (.seq (.region i3 ops3 _) body))))))=>
  ⟨i1,j4h ops.toList,q4c ops.toList,id,i2,q4c (ops2.toList.take 1),q4c ops2.toList,b,id3,i3,q4c (ops3.toList.take 1),ops3.toList.drop 1,body⟩
 |_=>⟨0,[],q4c [],0,0,q4c [],q4c [],0,0,0,q4c [],[], .skip⟩
abbrev itV(r:Nat):TV:= .val (.pointer (some ⟨r,0,none⟩))
section
variable {U : Nat -> Prop} {w0 : World} {J0 : Pl} {K : Nat -> Bool} {P : Program} {Rf R : Type}
def j3c(N:Nat)(tt:TT)(wr:Bool)(kp:List Bool):Ctx Unit:=⟨N,tt,wr,false,kp,fun _=>[],fun _=>none,fun _=>none⟩
abbrev q3z{C S E:Type}(stepK:{R:Type}->C->S->E->(S->Option R)->(Rf->Option R)->Option R)(c:C)(a:S)(l:List E):Option (S⊕Rf):=
 qim (fun a e=>stepK (R:=S⊕Rf) c a e (fun a' =>some (.inl a')) (fun r=>some (.inr r))) l a
noncomputable def qf6(Rf:Type)(N:Nat)(tt:TT)(wr:Bool)(kp:List Bool)(p:RngC)(shI:Shp){C S E:Type}(un:shI.den->C×S)(mk:C->S->shI.den)(esF:C->List E)(stepK:{R:Type}->C->S->E->(S->Option R)->(Rf->Option R)->Option R):Summ Rf where
 A:=C×S
 O:=Unit
 dec:=fun s=>jlt (j3c N tt wr kp) (p.pre++[p.o0]) p.pre s (fun s1=>match shI.dec N kp s1 with|some x=>some (un x)|none=>none)
 m:=fun _=>some ()
 cont:=fun x _ kn _ kr=>q5w (q3z stepK x.1 x.2) (esF x.1) (fun a=>kn (shI.enc (mk x.1 a))) kr
def zam(shI:Shp){C S:Type}(mk:C->S->shI.den)(d0 d1 d2 d3:Tmp)(fr:Bool)(kt vt:Ty)(r:Nat)(c:C)(a:S)(e:kt.den×vt.den):TS:=
 ⟨(d3, .tup [jzm kt e.1,jgb fr vt e.2])::(d2, .any)::(d1, .any)::(d0,itV r)::(shI.enc (mk c a)).S,(shI.enc (mk c a)).H⟩
def q2f(N:Nat)(kp:List Bool)(shI:Shp){C S:Type}(un:shI.den->C×S)(d0:Tmp)(K:Nat->C->S->Option R)(s' :TS):Option R:=
 match rd N s'.S d0 with
 | .val (.pointer (some ⟨r',0,none⟩))=>(match shI.dec N kp s' with|some x=>K r' (un x).1 (un x).2|none=>none)
 |_=>none
theorem jv2{X:Ctx Rf}(hX:CtxOK P X)(hK:jcu X K){all:List Oper}{k:TS->Option R}{r:R}{Q:Exit->Act->World->Prop}{tail:List Oper}(hQ:∀s' a' w' J',dr U w0 J0 K X.N s' a' w' J' ->k s' =some r->wpList P all.toArray Q tail a' w'):
  ∀(l:List Oper) (s:TS) (a:Act) (w:World) (J:Pl),dr U w0 J0 K X.N s a w J->jlt X all l s k=some r->wpList P all.toArray Q (l++tail) a w:=by
 intro l
 induction l with
 |nil=>intro s a w J hr h;exact hQ s a w J hr h
 |cons o rest ih=>
  intro s a w J hr h;unfold jlt j0h at h;split at h
  ·rename_i hg;exact HV hg fun K' hK' =>jlc hX hK h hr fun s' a' w' J' h' hk=>hK' _ _ (ih s' a' w' J' h' hk)
  ·rename_i g hg;obtain⟨S1,hext,hcase⟩:=qrh hg h;have hr1:dr U w0 J0 K X.N ⟨S1,s.H⟩ a w J:=dr.ext (s:=s) (s' :=⟨S1,s.H⟩) ⟨rfl,fun t=>(hext t).symm⟩ hr;refine wpList_step fun K' hK' => ?_
   rcases hcase with⟨hw,h1⟩|⟨hw,h1⟩
   ·rw[qcv hr hw];simp only[Kw];exact jlc hX hK h1 hr1 fun s' a' w' J' h' hk=>hK' _ _ (ih s' a' w' J' h' hk)
   ·rw[qcv hr hw];simp only[KP,KI];exact hK' _ _ (ih _ _ _ J (hr1.put o.dst (A:= .undef) (v:=undef) (by simp[VR])) h1)
def Ty.cell:Ty->Bool
 | .struct _=>false
 | .tree _ _=>false
 |_=>true
theorem jxo{G:Gr}{fr:Bool}:∀{t:Ty} (x:t.den) (v:Value),t.cell=true->Ty.C G.w (YY G.X G.U fr) t x 0 v->VR G (jgb fr t x) v
 | .int _,_,_,_,h=>h
 | .bool,_,_,_,h=>h
 | .str,_,_,_,h=>h
 | .slice _,_,_,_,h=>h
 | .struct _,_,_,hc,_=>by cases hc
 | .tree _ _,_,_,hc,_=>by cases hc
def jn9(l:List Nat):List (Nat×Sh)->Bool
 |[]=>true
 |p::r=> !inL p.1 l&&jn9 l r
theorem joa{l:List Nat}{t:Nat}(ht:t∈l):∀{sl:List (Nat×Sh)} (x:jfr sl),jn9 l sl=true->bu (qiw sl x) t= .any
 |[],_,_=>rfl
 |p::r,x,h=>by
  simp only[jn9,Wc,WE]at h;simp only[qiw,q7];rw[if_neg (fun e=>by rw[e,q37.2 ht]at h;exact absurd h.1 (by decide))];exact joa ht x.2 h.2
theorem dr.drop{N:Nat}{s:TS}{a:Act}{w:World}{J:Pl}{d:Tmp}{A:TV}(h:dr U w0 J0 K N (s.put (some d) A) a w J)(hd:bu s.S d= .any):dr U w0 J0 K N s a w J:=by
 refine⟨h.defers,h.len,fun t ht=> ?_,h.hr⟩;obtain⟨u,hu,hV⟩:=h.slot t ht;refine⟨u,hu,?_⟩;simp only[TS.put,q7]at hV;by_cases e:d=t
 ·subst e;rw[hd];trivial
 ·rw[if_neg e]at hV;exact hV
theorem dr.know{N:Nat}{s:TS}{a:Act}{w:World}{J:Pl}(h:dr U w0 J0 K N s a w J){d:Tmp}{A:TV}(hd:∀v,a.tmps[d]? =some v->VR (gr U (vw s.H) w J) A v):dr U w0 J0 K N (s.put (some d) A) a w J:=by
 refine⟨h.defers,h.len,fun t ht=> ?_,h.hr⟩;obtain⟨u,hu,hV⟩:=h.slot t ht;refine⟨u,hu,?_⟩;simp only[TS.put,q7];by_cases e:d=t
 ·subst e;rw[if_pos rfl];exact hd u hu
 ·rw[if_neg e];exact hV
theorem jor{a:Act}{d:Tmp}{v:Value}(h:d<a.tmps.size):(a.put (some d) v).eval (.tmp d)=v:=by
 simp[Act.put,Act.eval,h]
theorem q95{a:Act}{d t:Tmp}{v:Value}(h:d≠t):(a.put (some d) v).eval (.tmp t)=a.eval (.tmp t):=by
 simp[Act.put,Act.eval,h]
theorem jzr{a:Act}{d:Option Tmp}{v:Value}:(a.put d v).tmps.size=a.tmps.size:=by
 cases d<;>simp[Act.put]
theorem jpz(w:World)(b:Obj):Same w (w.alloc b):=by
 have h:∀(i:Nat) o,w.heap[i]? =some o->(w.alloc b).heap[i]? =some o:=fun i o hi=>by
  rw[Hn w _ i (W4.1 hi).1];exact hi
 exact⟨by simp,fun _ _ _ _ hh=>h _ _ hh,fun _ _ _ hh=>h _ _ hh⟩
theorem j0a{w w1:World}(hw:w1=w\/w1=w.drew){r:Nat}{m:Option Nat}{s:Nat}{seen:Array Nat}{c:Nat}(hr:w.heap[r]? =some (.mapIter m s seen c))(o:Obj):Same w (Go.ChangeMaps.setBlock w1 r o):=by
 have hh:w1.heap=w.heap:=by rcases hw with rfl|rfl<;>rfl
 have key:∀(i:Nat) x,w.heap[i]? =some x->(∀m s l c,x≠ .mapIter m s l c)->(Go.ChangeMaps.setBlock w1 r o).heap[i]? =some x:=fun i x hi hx=>by
  have hne:r≠i:=fun e=>by subst e;rw[hr]at hi;exact hx _ _ _ _ (Kp hi).symm
  simp only[Go.ChangeMaps.setBlock,hh];rw[Hf hne];exact hi
 refine⟨by simp[Go.ChangeMaps.setBlock,hh],fun b cur e z hb=>key _ _ hb (by intros;simp),fun b es c hb=>key _ _ hb (by intros;simp)⟩
end
end Go.K
namespace Go.K
open Go.M Go.RowKit
section
variable {U : Nat -> Prop} {w0 : World} {J0 : Pl} {K : Nat -> Bool} {N : Nat} {P : Program} {R Rf : Type}
theorem jpp{body:Code}{Q:Exit->Act->World->Prop}(I:Nat->Act->World->Prop)
  (round:∀n a w,I n a w->body.wp P (fun e a' w' =>match e with| .normal=>∃m,m<n/\I m a' w' |e=>Q e a' w') a w):∀n a w,I n a w->(Code.loop body).wp P Q a w:=by
 intro n0 a w h0
 suffices H:∀n a w,I n a w->∀b k cs,∃e a' w',Q e a' w' /\Arrives P (lone (b.at a (.code body:: .inLoop body::k)) cs w) b k cs e a' w' by
  intro b k cs;obtain⟨e,a',w',hq,harr⟩:=H n0 a w h0 b k cs;exact⟨e,a',w',hq, .of_steps (.one step_loop) harr⟩
 intro n
 induction n using Nat.strongRecOn with
 |_ n ih=>
  intro a w hI b k cs;obtain⟨e,a₁,w₁,hq,harr⟩:=round n a w hI b (.inLoop body::k) cs;cases e with
  |normal=>
   obtain⟨m,hlt,hm⟩:=hq;obtain⟨e,a',w',hq',harr'⟩:=ih m hlt a₁ w₁ hm b k cs;exact⟨e,a',w',hq', .of_steps (Steps.trans harr (.one step_inLoop)) harr'⟩
  |exit id=>exact⟨_,a₁,w₁,hq,fun k' hk=>harr k' (by simpa[exitTo]using hk)⟩
  |goto l=>exact⟨_,a₁,w₁,hq,fun k' hk=>harr k' (by simpa[gotoIn]using hk)⟩
  |ret=>exact⟨_,a₁,w₁,hq,harr⟩
  |panic chain=>exact⟨_,a₁,w₁,hq,harr⟩
  |outgrown=>exact⟨_,a₁,w₁,hq,harr⟩
theorem jqh{o:Oper}{a:Act}{ty:TypeId}{m:Operand}(ho:o.op= .range ty m){w w' :World}{u:Value}(h:(Instr.range ty (a.eval m)).run P w= .ok u w'):(execOp a.eval o).run P w= .ok (.value u) w' :=by simp[execOp,ho,h,Result.andThen]
theorem ju4{o:Oper}{a:Act}{it:Operand}(ho:o.op= .next it false){w w' :World}{u:Value}(h:(Instr.next (a.eval it) false o.type).run P w= .ok u w'):(execOp a.eval o).run P w= .ok (.value u) w' :=by simp[execOp,ho,h,Result.andThen]
theorem jqg{o:Oper}{a:Act}{it:Operand}(ho:o.op= .entry it){w w' :World}{u:Value}(h:(Instr.entry (a.eval it)).run P w= .ok u w'):(execOp a.eval o).run P w= .ok (.value u) w' :=by simp[execOp,ho,h,Result.andThen]
theorem jki{o:Oper}{a:Act}{x:Operand}{l:Array Value}{i:Nat}{v:Value}(ho:o.op= .extract x i)(hx:a.eval x= .tuple l)(hv:l[i]? =some v){w:World}:(execOp a.eval o).run P w= .ok (.value v) w:=by
 simp[execOp,ho,Instr.extract,hx,hv,Result.andThen]
theorem q4w{o:Oper}{a:Act}{w w' :World}{u:Value}{KK:Act->World->Prop}{Q:Exit->Act->World->Prop}(h:(execOp a.eval o).run P w= .ok (.value u) w')(hk:KK (a.put o.dst u) w'):o.wp P a w KK Q:=by
 unfold Oper.wp;rw[h];exact hk
theorem dr.over'{N:Nat}{s:TS}{a:Act}{w:World}{J:Pl}{d:Tmp}(h:dr U w0 J0 K N s a w J)(v:Value)(hd:bu s.S d= .any):dr U w0 J0 K N s (a.put (some d) v) w J:=by
 refine⟨h.defers,by simp[Act.put,h.len],fun t ht=> ?_,h.hr⟩;by_cases e:d=t
 ·subst e;exact⟨v,by simp[Act.put,h.len,ht],by rw[hd];trivial⟩
 ·obtain⟨u,hu,hV⟩:=h.slot t ht;exact⟨u,by simp[Act.put,e,hu],hV⟩
structure RngC.Ok (p : RngC) (ty : TypeId) (m d0 d1 d3 : Tmp) : Prop where
 q0 : p.o0.op = .range ty (.tmp m)
 r0 : p.o0.dst = some d0
 g0 : p.o0.guard = none
 q1 : p.o1.op = .next (.tmp d0) false
 r1 : p.o1.dst = some d1
 g1 : p.o1.guard = none
 q2 : p.o2.op = .extract (.tmp d1) 0
 r2 : p.o2.dst = some p.b
 g2 : p.o2.guard = none
 q3 : p.o3.op = .entry (.tmp d0)
 r3 : p.o3.dst = some d3
 g3 : p.o3.guard = none
 n1 : Nat.beq d0 d1 = false
 n2 : Nat.beq d0 p.b = false
 n3 : Nat.beq d0 d3 = false
def jhy(w:World)(Y:Nat->Prop)(kt vt:Ty)(es:List (kt.den×vt.den))(r:Nat)(don:List (kt.den×vt.den))(k:Nat):Prop:=
 (w.heap[r]? =some (.mapIter none 0 #[] 0)/\es=[]/\don=[]/\k=0)\/
 ∃g hs clk since seen c0,g<w.heap.size/\¬Y g/\w.heap[g]? =some (.map hs clk)/\w.heap[r]? =some (.mapIter (some g) since seen c0)/\(∀x∈hs.toList,x.born<since)/\since<=c0/\since<=clk/\Stp hs clk/\hs.size=es.length/\
  (∀(i:Nat) e p,hs[i]? =some e->es[i]? =some p->e.key=kt.v1 p.1/\vt.C w Y p.2 0 e.val)/\(don++jhk hs es seen).Perm es/\k=(leftOf hs seen).size
theorem jhy.low{w w' :World}{Y Y' :Nat->Prop}{kt vt:Ty}{es don:List (kt.den×vt.den)}{r k:Nat}(h:jhy w Y kt vt es r don k)(hl:Low w Y w' Y')(hr:w'.heap[r]? =w.heap[r]?):jhy w' Y' kt vt es r don k:=by
 rcases h with⟨h1,h2⟩|⟨g,hs,clk,since,seen,c0,hg,hY,hm,hi,a1,a2,a3,a4,a5,a6,a7⟩
 ·exact .inl ⟨hr.trans h1,h2⟩
 ·refine .inr ⟨g,hs,clk,since,seen,c0,WL hg hl.size,hl.ex g hg hY,(hl.blk g hg hY).trans hm,hr.trans hi,a1,a2,a3,a4,a5,fun i e p he hp=> ?_,a7⟩;obtain⟨b1,b2⟩:=a6 i e p he hp;exact⟨b1,Ty.C_low hl vt _ 0 _ b2⟩
theorem j2a{a:Act}{d:Tmp}{v:Value}(h:a.tmps[d]? =some v):a.eval (.tmp d)=v:=by simp[Act.eval,h]
theorem jzt{X:Ctx Rf}(hX:CtxOK P X)(hmix:P.follows .mixedOrders=true){n:Nat}{p:RngC}{ann:Ann}(hs:∀q∈qw p.body ann,a8 P X q.1 q.2)
  {ty kk ee:TypeId} {m d0 d1 d3:Tmp} (hp:p.Ok ty m d0 d1 d3) {b1 b2:Nat} {z1:List Value} (htt:X.tt ty=some ⟨.map kk ee,b1,b2,z1⟩)
  {fr:Bool} {kt vt:Ty} (hcell:vt.cell=true)
  {shI:Shp} {C S:Type} {un:shI.den->C×S} {mk:C->S->shI.den} {esF:C->List (kt.den×vt.den)} {stepK:{R:Type}->C->S->(kt.den×vt.den)->(S->Option R)->(Rf->Option R)->Option R}
  (hΛ:X.Λ n=some (qf6 Rf X.N X.tt X.wr X.kp p shI un mk esF stepK)) (hmk:∀x,mk (un x).1 (un x).2=x)
  (hsl:jn9 [d0,d1,p.b,d3] shI.sl=true) (hN:(Nat.blt d0 X.N&&Nat.blt m X.N&&Nat.blt d1 X.N&&Nat.blt p.b X.N&&Nat.blt d3 X.N)=true)
  (hmap:∀c a,bu (shI.enc (mk c a)).S m= .dm fr kt vt (esF c))
  (hpar:∀(R:Type) (K:Nat->C->S->Option R) (T:Rf->Option R) (r:Nat) (c:C) (a:S) (e:kt.den×vt.den),
   jlt X (p.o3::p.rest) p.rest (zam shI mk d0 d1 p.b d3 fr kt vt r c a e) (fun s1=>den X p.body ann s1 (q2f X.N X.kp shI un d0 K) (fun i s' =>bif Nat.beq i p.id3 then q2f X.N X.kp shI un d0 K s' else none) T)=stepK c a e (K r c) T):
  a8 P X n p.code:=by
 intro J hJ;rw[hΛ]at hJ;cases hJ;intro U w0 J0 K hK R s x o kn ke kr r hdec hm hcont;obtain⟨c,a0⟩:=x;simp only[qf6]at hdec hm hcont;have hperm:=qyr hcont;clear hcont hm;simp only[Wc]at hN;obtain⟨⟨⟨⟨hN0,hNm⟩,hN1⟩,hNb⟩,hN3⟩:=hN;have hN0:=cm hN0;have hNm:=cm hNm;have hN1:=cm hN1;have hNb:=cm hNb;have hN3:=cm hN3;have hany:∀(t:Nat),t∈[d0,d1,p.b,d3]->∀y:shI.den,bu (shI.enc y).S t= .any:=fun t ht y=>joa ht y.1 hsl
 have ne1:d0≠d1:=fun e=>by have:=hp.n1;rw[e,W5]at this;cases this
 have ne2:d0≠p.b:=fun e=>by have:=hp.n2;rw[e,W5]at this;cases this
 have ne3:d0≠d3:=fun e=>by have:=hp.n3;rw[e,W5]at this;cases this
 intro av w J hr;let I:Nat->Act->World->Prop:=fun k a w=>∃J acc don rr,dr U w0 J0 K X.N ((shI.enc (mk c acc)).put (some d0) (itV rr)) a w J/\w0.heap.size<=rr/\rr<w.heap.size/\
  jhy w (YY (da J) U fr) kt vt (esF c) rr don k/\q3z stepK c a0 don=some (.inl acc)
 have hX0:CtxOK P (j3c X.N X.tt X.wr X.kp):=⟨hX.fits,fun f M hM=>by simp[j3c]at hM,hX.mt⟩;refine wp_seq (wp_region_lit ?_);refine jv2 (R:=C×S) (X:=j3c X.N X.tt X.wr X.kp) hX0 hK (fun s1 a1 w1 J1 hr1 hk1=> ?_) p.pre s av w J hr hdec;cases hx:shI.dec X.N X.kp s1 with
 |none=>rw[hx]at hk1;cases hk1
 |some x=>
 rw[hx]at hk1;have hux:un x=(c,a0):=by simpa using hk1
 have hxe:x=mk c a0:=by
  have e:=hmk x;rw[hux]at e;exact e.symm
 obtain⟨J2,hr2⟩:=Shp.dec_ok hK hx hr1;rw[hxe]at hr2;have hdm:=hr2.ev (.tmp m);have hevm:evT X.N (shI.enc (mk c a0)).S (.tmp m)= .dm fr kt vt (esF c):=by
  simp only[evT,rd];rw[show Nat.blt m X.N=true by rw[HW];exact hNm];exact hmap c a0
 rw[hevm]at hdm;have hund:P.underlying ty=some (.map kk ee):=oh hX.fits htt;have hsz0:w0.heap.size<=w1.heap.size:=hr2.hr.size;have hbegin:∀ob,(∀Y:Nat->Prop,YY (da J2) U fr=Y->jhy (w1.alloc ob) Y kt vt (esF c) w1.heap.size [] (esF c).length)->I (esF c).length (a1.put (some d0) (.pointer (some ⟨w1.heap.size,0,none⟩))) (w1.alloc ob):=by
  intro ob hit;refine⟨J2,a0,[],w1.heap.size,?_,hsz0,by simp,hit _ rfl,rfl⟩;have hr3:=ARel.same hr2 (jpz w1 ob) rfl rfl rfl (fun b hb=>Hn w1 ob b (WL hb hsz0));exact dr.put (s:=shI.enc (mk c a0)) hr3 (some d0) (A:=itV w1.heap.size) rfl
 have hstart:∃ob,(Instr.range ty (a1.eval (.tmp m))).run P w1= .ok (.pointer (some ⟨w1.heap.size,0,none⟩)) (w1.alloc ob)/\I (esF c).length (a1.put (some d0) (.pointer (some ⟨w1.heap.size,0,none⟩))) (w1.alloc ob):=by
  rcases hdm with⟨hv,he⟩|⟨g,hs1,clk,hv,hg,hY,hh,hst,hlen,hent⟩
  ·refine⟨_,by rw[hv];exact run_range_nilMap w1 ty kk ee hund,hbegin _ fun Y hYe=> .inl ⟨KM w1 _,he,rfl,by rw[he];rfl⟩⟩
  ·refine⟨_,by rw[hv];exact run_range_map w1 ty kk ee g hs1 clk hund hh,hbegin _ fun Y hYe=> ?_⟩;subst hYe;have hg:g<w1.heap.size:=hg;have hlen:hs1.size=(esF c).length:=hlen;have hh:w1.heap[g]? =some (.map hs1 clk):=hh;have hlow:Low w1 (YY (da J2) U fr) (w1.alloc (.mapIter (some g) clk #[] clk)) (YY (da J2) U fr):=⟨by simp,fun _ _ h=>h,fun b hb _=>Hn w1 _ b hb⟩;refine .inr ⟨g,hs1,clk,clk,#[],clk,by simp;omega,hY,(Hn w1 _ g hg).trans hh,KM w1 _,hst.1,Wg _,Wg _,hst,hlen,fun i e q he hq=> ?_,?_,?_⟩
   ·obtain⟨c1,c2⟩:=hent i e q he hq;exact⟨c1,Ty.C_low hlow vt _ 0 _ c2⟩
   ·rw[jrd hlen];exact Kl _
   ·have:leftOf hs1 #[]=hs1:=by unfold leftOf;rw[Array.filter_eq_self];intro e _;simp
    rw[this,hlen]
 clear hbegin hdm;obtain⟨ob,hrun,hI0⟩:=hstart;refine HV hp.g0 fun K' hK' =>q4w (jqh hp.q0 hrun) (hK' _ _ (wpList_nil ?_))
 rw[hp.r0];let Q:Exit->Act->World->Prop:=fun e a' w' =>match e with
  | .exit id' =>id' =p.id/\∃s' J',dr U w0 J0 K X.N s' a' w' J' /\kn s' =some r
  | .ret=>∃s' J',dr U w0 J0 K X.N s' a' w' J' /\∃x,X.res s' =some x/\kr x=some r
  |_=>False
 refine wp_block (K0 ?_ (jpp (Q:=Q) I ?_ _ _ _ hI0))
 ·rintro e a' w' hq;cases e with
  |exit id' =>
   obtain⟨rfl,s',J',h1,h2⟩:=hq;simp only[Exit.inBlock,Kw];exact⟨s',J',h1,h2⟩
  |ret=>obtain⟨s',J',h1,h2⟩:=hq;exact⟨s',J',h1,h2⟩
  |_=>exact hq.elim
 rintro k a w ⟨J,acc,don,rr,hr,hrr0,hrr,hit,hF⟩;have hev:a.eval (.tmp d0)= .pointer (some ⟨rr,0,none⟩):=by
  obtain⟨v,h1,h2⟩:=hr.slot d0 hN0;simp only[TS.put,q7,Kw]at h2;rw[j2a h1];exact h2
 have hd1:bu ((shI.enc (mk c acc)).put (some d0) (itV rr)).S d1= .any:=by simp only[TS.put,q7,if_neg ne1];exact hany d1 (by simp) _
 have hdb:bu ((shI.enc (mk c acc)).put (some d0) (itV rr)).S p.b= .any:=by simp only[TS.put,q7,if_neg ne2];exact hany p.b (by simp) _
 have hla:a.tmps.size=X.N:=hr.len;have hev1:∀v1,(a.put (some d1) v1).eval (.tmp d1)=v1:=fun v1=>jor (by rw[hla];exact hN1)
 have hhead:∀(bb:Bool) (v1:Value) (w1:World),(Instr.next (.pointer (some ⟨rr,0,none⟩)) false p.o1.type).run P w= .ok v1 w1->(∃l,v1= .tuple l/\l[0]? =some (.bool bb))->
   (bb=false->Q (.exit p.id) ((a.put (some d1) v1).put (some p.b) (.bool bb)) w1)->
   (bb=true->(Code.block p.id3 (.seq (.region p.i3 (p.o3::p.rest).toArray false) p.body)).wp P (fun e a' w' =>match e with| .normal=>∃m,m<k/\I m a' w' |e=>Q e a' w') ((a.put (some d1) v1).put (some p.b) (.bool bb)) w1)->
   p.head.wp P (fun e a' w' =>match e with| .normal=>∃m,m<k/\I m a' w' |e=>Q e a' w') a w:=by
  rintro bb v1 w1 hrun ⟨l,rfl,hl⟩ hf ht;refine wp_seq (wp_region_lit ?_);refine HV hp.g1 fun K' hK' =>q4w (ju4 hp.q1 (by rw[hev];exact hrun)) (hK' _ _ ?_)
  rw[hp.r1];refine HV hp.g2 fun K' hK' =>q4w (jki hp.q2 (hev1 _) hl) (hK' _ _ (wpList_nil ?_))
  rw[hp.r2];show(Code.seq _ _).wp P _ _ _;refine wp_seq (wp_cond_split (t:=bb) (jor (by rw[jzr,hla];exact hNb)) (fun hb=>wp_skip ?_) (fun hb=>wp_exit ?_))
  ·exact ht hb
  ·exact hf hb
 rcases hit with⟨hi,hes,hdon,hk0⟩|⟨g,hs1,clk,since,seen,c0,hg,hY,hh,hi,hold,hsc,hsk,hst,hlen,hent,hpm,hkl⟩
 ·
  refine hhead false (.tuple #[.bool false]) w ?_ ⟨_,rfl,rfl⟩ (fun _=>⟨rfl,shI.enc (mk c acc),J,((hr.over' _ hd1).over' _ hdb).drop (hany d0 (by simp) _),?_⟩) (fun h=>by cases h)
  ·simp only[Instr.next,getObj,WJ,Sem.run,hi,Result.andThen];rfl
  ·obtain⟨y,h1,h2⟩:=hperm [] (by rw[hes]);subst hdon;rw[hF]at h1;cases h1;exact h2
 ·rcases run_next_at (P:=P) w p.o1.type rr g since c0 seen hs1 clk hi hh hold hsc with⟨h0,hrun⟩|⟨e,he,w1',hw1,hrun⟩
  ·
   refine hhead false _ w hrun ⟨_,rfl,rfl⟩ (fun _=>⟨rfl,shI.enc (mk c acc),J,((hr.over' _ hd1).over' _ hdb).drop (hany d0 (by simp) _),?_⟩) (fun h=>by cases h);rw[jvz h0,Kx]at hpm;obtain⟨y,h1,h2⟩:=hperm don hpm;rw[hF]at h1;cases h1;exact h2
  ·
   refine hhead true _ _ hrun ⟨_,rfl,rfl⟩ (fun h=>by cases h) (fun _=> ?_);have hsame:=j0a hw1 hi (.mapIter (some g) since (seen.push e.born) clk);have hoth:∀b:Nat,b≠rr->(Go.ChangeMaps.setBlock w1' rr (.mapIter (some g) since (seen.push e.born) clk)).heap[b]? =w.heap[b]? :=fun b hb=>by
    have hh1:w1'.heap=w.heap:=by rcases hw1 with rfl|rfl<;>rfl
    simp only[Go.ChangeMaps.setBlock,hh1];exact Hf (fun e=>hb e.symm)
   have hself:(Go.ChangeMaps.setBlock w1' rr (.mapIter (some g) since (seen.push e.born) clk)).heap[rr]? =some (.mapIter (some g) since (seen.push e.born) clk):=by
    have hh1:w1'.heap=w.heap:=by rcases hw1 with rfl|rfl<;>rfl
    simp only[Go.ChangeMaps.setBlock,hh1];rw[Array.getElem?_setIfInBounds_self,if_pos hrr]
   have hsize:(Go.ChangeMaps.setBlock w1' rr (.mapIter (some g) since (seen.push e.born) clk)).heap.size=w.heap.size:=by rcases hw1 with rfl|rfl<;>simp[Go.ChangeMaps.setBlock]<;>rfl
   have hos:(Go.ChangeMaps.setBlock w1' rr (.mapIter (some g) since (seen.push e.born) clk)).os=w.os/\(Go.ChangeMaps.setBlock w1' rr (.mapIter (some g) since (seen.push e.born) clk)).tape=w.tape/\(Go.ChangeMaps.setBlock w1' rr (.mapIter (some g) since (seen.push e.born) clk)).output=w.output:=by rcases hw1 with rfl|rfl<;>exact⟨rfl,rfl,rfl⟩
   generalize Go.ChangeMaps.setBlock w1' rr (.mapIter (some g) since (seen.push e.born) clk)=w2 at hsame hoth hself hsize hos;have hr2:dr U w0 J0 K X.N ((shI.enc (mk c acc)).put (some d0) (itV rr)) a w2 J:=ARel.same hr hsame hos.1 hos.2.1 hos.2.2 fun b hb=>hoth b (by omega)
   have hgr:g≠rr:=fun e=>by rw[e,hi]at hh;cases hh
   have hh2:w2.heap[g]? =some (.map hs1 clk):=(hoth g hgr).trans hh;obtain⟨j,q,hj1,hj2,hjp⟩:=jv0 hst hlen he;obtain⟨hkey,hC⟩:=hent j e q hj1 hj2;have hC2:vt.C w2 (YY (da J) U fr) q.2 0 e.val:=Ty.C_same hsame vt _ 0 _ hC;have hpm2:(don++q::jhk hs1 (esF c) (seen.push e.born)).Perm (esF c):=(List.Perm.append_left don hjp).symm.trans hpm;obtain⟨yF,hyF,hlk⟩:=hperm _ hpm2;have hB:q3z stepK c acc (q::jhk hs1 (esF c) (seen.push e.born))=some yF:=by
    have h:=q7g (fun a e=>stepK (R:=S⊕Rf) c a e (fun a' =>some (.inl a')) (fun r=>some (.inr r))) don (q::jhk hs1 (esF c) (seen.push e.born)) a0;have h3:q3z stepK c a0 don=some (.inl acc):=hF;simp only[q3z]at h3 hyF;rw[hyF,h3]at h;exact h.symm
   have hleft:=left_shrinks hs1 seen e he;have hrelS:dr U w0 J0 K X.N (zam shI mk d0 d1 p.b d3 fr kt vt rr c acc q) ((((a.put (some d1) (.tuple #[.bool true,e.key,e.val])).put (some p.b) (.bool true)).put (some d3) (.tuple #[e.key,e.val]))) w2 J:=by
    refine dr.put (s:=(((shI.enc (mk c acc)).put (some d0) (itV rr)).put (some d1) .any).put (some p.b) .any) (dr.put (dr.put hr2 (some d1) (A:= .any) trivial) (some p.b) (A:= .any) trivial) (some d3) (A:= .tup [jzm kt q.1,jgb fr vt q.2]) ?_;refine⟨[e.key,e.val],rfl,_,_,rfl,by rw[hkey];exact jeb q.1,_,_,rfl,jxo q.2 e.val hcell hC2,rfl⟩
   classical
   let K1:Nat->C->S->Option (S⊕Rf):=fun r' c' a' =>if r' =rr/\c' =c then some (.inl a')else none
   have hden:=hpar (S⊕Rf) K1 (fun r=>some (.inr r)) rr c acc q;have e1:K1 rr c=fun a' =>some (.inl a'):=by funext a';simp[K1]
   rw[e1]at hden;obtain⟨xv,hxv⟩:∃xv,stepK c acc q (fun a' =>some (.inl a')) (fun r=>some (Sum.inr r))=some xv:=by
    simp only[q3z,qim]at hB;revert hB;cases stepK c acc q (fun a' =>some (.inl a')) (fun r=>some (Sum.inr r))with
    |none=>intro h;cases h
    |some xv=>intro _;exact⟨xv,rfl⟩
   rw[hxv]at hden;have hbase:=hrelS.rebase;have hend:∀s' a' w' J',dr U w2 J K X.N s' a' w' J' ->q2f X.N X.kp shI un d0 K1 s' =some xv->∃m,m<k/\I m a' w' :=by
    intro s' a' w' J' hr' h;unfold q2f at h;split at h
    ·rename_i r' hrd;cases hx' :shI.dec X.N X.kp s' with
     |none=>rw[hx']at h;cases h
     |some x' =>
      rw[hx']at h;simp only[K1]at h;split at h
      ·rename_i hrc;obtain⟨hr1',hc1⟩:=hrc;cases h;obtain⟨J3,hr3⟩:=Shp.dec_ok hK hx' hr';have hxe:x' =mk c (un x').2:=by
        have e:=hmk x';rw[hc1]at e;exact e.symm
       rw[hxe]at hr3;have hlow:=HR.lowY hr3.hr hbase.hr fr;have hnor:∀(T:TG) o,J T≠some (rr,o):=fun T o hT=>by
        rcases hrelS.hr.kind hT with⟨cur,e',h⟩|⟨es',c',h⟩<;>rw[hself]at h<;>cases h
       have hblk:w'.heap[rr]? =w2.heap[rr]? :=hr3.hr.blk rr (by omega) hnor;refine⟨(leftOf hs1 (seen.push e.born)).size,by rw[hkl];exact hleft,J3,(un x').2,don++[q],rr,?_,hrr0,by have:=hr3.hr.size;omega,?_,?_⟩
       ·have h4:dr U w2 J K X.N ((shI.enc (mk c (un x').2)).put (some d0) (itV rr)) a' w' J3:=by
         refine hr3.know fun v hv=> ?_
         obtain⟨v',hv1,hv2⟩:=hr'.slot d0 hN0;rw[hv1]at hv;cases hv;have:bu s'.S d0=itV r' :=by
          have:=hrd;simp only[rd]at this;rw[show Nat.blt d0 X.N=true by rw[HW];exact hN0]at this;exact this
         rw[this,hr1']at hv2;exact hv2
        exact ARel.comp hrelS.hr h4
       ·have hit2:jhy w2 (YY (da J) U fr) kt vt (esF c) rr (don++[q]) (leftOf hs1 (seen.push e.born)).size:=
         .inr ⟨g,hs1,clk,since,seen.push e.born,clk,by omega,hY,hh2,hself,hold,hsk,hsk,hst,hlen,fun i e' q' h1 h2=>by
          obtain⟨b1,b2⟩:=hent i e' q' h1 h2;exact⟨b1,Ty.C_same hsame vt _ 0 _ b2⟩,by rw[HE];exact hpm2,rfl⟩
        exact hit2.low hlow hblk
       ·have h:=q7g (fun a e=>stepK (R:=S⊕Rf) c a e (fun a' =>some (.inl a')) (fun r=>some (.inr r))) don [q] a0;have h3:q3z stepK c a0 don=some (.inl acc):=hF;simp only[q3z]at h3⊢;rw[h,h3];simp only[qim,hxv]
      ·cases h
    ·cases h
   have hev2:((a.put (some d1) (.tuple #[.bool true,e.key,e.val])).put (some p.b) (.bool true)).eval (.tmp d0)= .pointer (some ⟨rr,0,none⟩):=by
    rw[q95 (fun e=>ne2 e.symm),q95 (fun e=>ne1 e.symm)];exact hev
   refine wp_block (wp_seq (wp_region_lit (HV hp.g3 fun K' hK' =>q4w (jqg hp.q3 (by rw[hev2];exact run_entry_at w2 rr g since seen hs1 clk e hself hh2 (mem_left he).1 hst.2)) (hK' _ _ ?_))));rw[hp.r3];refine jtr hX hK (fun s' a' w' J' h' hk=> ?_) p.rest _ _ w2 J hbase hden;show p.body.wp P _ a' w';refine K0 ?_ (jdb hX hmix hK p.body ann _ _ _ _ hs hk a' w' J' h');rintro e' a2 w2' ⟨s2,J2',h1,hpost⟩;cases e' with
   |normal=>exact hend s2 a2 w2' J2' h1 hpost
   |exit id' =>
    have hpost:(bif Nat.beq id' p.id3 then q2f X.N X.kp shI un d0 K1 s2 else none)=some xv:=hpost;have hid:=ax (ai hpost).1;subst hid;simp only[Exit.inBlock,Kw];exact hend s2 a2 w2' J2' h1 (ai hpost).2
   |ret=>
    obtain⟨x',hres,hkx⟩:=hpost;cases hkx;refine⟨s2,J2',ARel.comp hrelS.hr h1,x',hres,?_⟩;simp only[q3z,qim,hxv]at hB;cases hB;exact hlk
   |_=>exact hpost.elim
end
end Go.K
namespace Go.K
open Go.M Go.RowKit
section
variable {S E Rf R : Type}
noncomputable def tell(p:Prop):Option Unit:=by
 classical
 exact if p then some ()else none
theorem k7{p:Prop}:tell p=some ()↔p:=by
 unfold tell;split
 ·rename_i h;exact⟨fun _=>h,fun _=>rfl⟩
 ·rename_i h;exact⟨fun e=>(by cases e),fun e=>absurd e h⟩
def ndN(step:{Q:Type}->S->(S->Option Q)->(E->Option Q)->(Rf->Option Q)->Option Q)(dn:E->Option R)(rt:Rf->Option R)(r:R):Nat->S->Prop
 |0,_=>False
 |n+1,s=>step (Q:=Unit) s (fun s' =>tell (ndN step dn rt r n s')) (fun e=>tell (dn e=some r)) (fun x=>tell (rt x=some r))=some ()
noncomputable def ndK(step:{Q:Type}->S->(S->Option Q)->(E->Option Q)->(Rf->Option Q)->Option Q)(s:S)(dn:E->Option R)(rt:Rf->Option R):Option R:=by
 classical
 exact if h:∃r n,ndN step dn rt r n s then some h.choose else none
theorem jzf{step:{Q:Type}->S->(S->Option Q)->(E->Option Q)->(Rf->Option Q)->Option Q}{s:S}{dn:E->Option R}{rt:Rf->Option R}{r:R}(h:ndK step s dn rt=some r):∃n,ndN step dn rt r n s:=by
 unfold ndK at h;split at h
 ·rename_i h1;cases h;exact h1.choose_spec
 ·cases h
theorem jqy{step:{Q:Type}->S->(S->Option Q)->(E->Option Q)->(Rf->Option Q)->Option Q}{s:S}{dn:E->Option R}{rt:Rf->Option R}{r:R}{n:Nat}(h:ndN step dn rt r n s)(hu:∀r' n',ndN step dn rt r' n' s->r' =r):ndK step s dn rt=some r:=by
 have h1:∃r n,ndN step dn rt r n s:=⟨r,n,h⟩;have h2:ndK step s dn rt=some h1.choose:=by
  unfold ndK;rw[dif_pos h1]
 obtain⟨n',hn'⟩:=h1.choose_spec;rw[h2,hu _ n' hn']
end
section
variable {P : Program} {Rf : Type}
noncomputable def q7p(Rf:Type)(N:Nat)(kp:List Bool)(shI:Shp){C S:Type}(un:shI.den->C×S)(shE:Shp){CE E:Type}(mkE:CE->E->shE.den)(pE:C->CE)
  (stepK:{R:Type}->C->S->(S->Option R)->(E->Option R)->(Rf->Option R)->Option R):Summ Rf where
 A:=C×S
 O:=Unit
 dec:=fun s=>match shI.dec N kp s with|some x=>some (un x)|none=>none
 m:=fun _=>some ()
 cont:=fun x _ kn _ kr=>ndK (stepK x.1) x.2 (fun e=>kn (shE.enc (mkE (pE x.1) e))) kr
theorem zcz{X:Ctx Rf}(hX:CtxOK P X)(hmix:P.follows .mixedOrders=true){n id:Nat}{body:Code}{ann:Ann}(hs:∀p∈qw body ann,a8 P X p.1 p.2)
  {shI shE:Shp} {C S CE E:Type} {un:shI.den->C×S} {mk:C->S->shI.den} {unE:shE.den->CE×E} {mkE:CE->E->shE.den} {pE:C->CE}
  {stepK:{R:Type}->C->S->(S->Option R)->(E->Option R)->(Rf->Option R)->Option R}
  (hΛ:X.Λ n=some (q7p Rf X.N X.kp shI un shE mkE pE stepK)) (hmk:∀x,mk (un x).1 (un x).2=x) (hmkE:∀y,mkE (unE y).1 (unE y).2=y)
  (hpar:∀(R:Type) (K:C->S->Option R) (D:CE->E->Option R) (T:Rf->Option R) (c:C) (a:S),
   den X body ann (shI.enc (mk c a)) (fun s' =>match shI.dec X.N X.kp s' with|some x=>K (un x).1 (un x).2|none=>none)
    (fun id' s' =>bif Nat.beq id' id then(match shE.dec X.N X.kp s' with|some y=>D (unE y).1 (unE y).2|none=>none)else none) T=stepK c a (K c) (D (pE c)) T):
  a8 P X n (.block id (.loop body)):=by
 intro J hJ;rw[hΛ]at hJ;cases hJ;intro U w0 J0 K hK R s x o kn ke kr r hdec hm hcont;obtain⟨c,a0⟩:=x;simp only[q7p]at hdec hm hcont;obtain⟨n0,hn0⟩:=jzf hcont;cases hx:shI.dec X.N X.kp s with
 |none=>rw[hx]at hdec;cases hdec
 |some x=>
  rw[hx]at hdec;simp only[Wb]at hdec;have hxe:x=mk c a0:=by
   have e:=hmk x;rw[hdec]at e;exact e.symm
  intro av w J hr;obtain⟨J1,hr1⟩:=Shp.dec_ok hK hx hr;rw[hxe]at hr1;have hround:∀p:Nat×S,ndN (stepK c) (fun e=>kn (shE.enc (mkE (pE c) e))) kr r p.1 p.2->∀a w J,dr U w0 J0 K X.N (shI.enc (mk c p.2)) a w J->
    body.wp P (fun e a' w' =>match e with
     | .normal=>∃(j:Nat×S) (J' :Pl),ndN (stepK c) (fun e=>kn (shE.enc (mkE (pE c) e))) kr r j.1 j.2/\j.1<p.1/\dr U w0 J0 K X.N (shI.enc (mk c j.2)) a' w' J'
     |e=>∃s' J',dr U w0 J0 K X.N s' a' w' J' /\(match e with| .exit id' =>id' =id/\kn s' =some r| .ret=>∃x,X.res s' =some x/\kr x=some r|_=>False)) a w:=by
   rintro⟨k,a⟩ hp aa ww JJ hrel;cases k with
   |zero=>exact hp.elim
   |succ k=>
    classical
    let K1:C->S->Option Unit:=fun c' a' =>if c' =c then tell (ndN (stepK c) (fun e=>kn (shE.enc (mkE (pE c) e))) kr r k a')else none
    let D1:CE->E->Option Unit:=fun c' e=>if c' =pE c then tell (kn (shE.enc (mkE (pE c) e))=some r)else none
    let T1:Rf->Option Unit:=fun x=>tell (kr x=some r)
    have hden:=hpar Unit K1 D1 T1 c a;have e1:K1 c=fun a' =>tell (ndN (stepK c) (fun e=>kn (shE.enc (mkE (pE c) e))) kr r k a'):=by funext a';simp[K1]
    have e2:D1 (pE c)=fun e=>tell (kn (shE.enc (mkE (pE c) e))=some r):=by funext e;simp[D1]
    rw[e1,e2]at hden;have hp' :stepK c a (R:=Unit) (fun s' =>tell (ndN (stepK c) (fun e=>kn (shE.enc (mkE (pE c) e))) kr r k s')) (fun e=>tell (kn (shE.enc (mkE (pE c) e))=some r)) T1=some ():=hp;rw[hp']at hden;refine K0 ?_ (jdb hX hmix hK body ann _ _ _ _ hs hden aa ww JJ hrel);rintro e a' w' ⟨s',J',h1,hpost⟩;cases e with
    |normal=>
     have hk:(match shI.dec X.N X.kp s' with|some x=>K1 (un x).1 (un x).2|none=>none)=some ():=hpost;cases hx' :shI.dec X.N X.kp s' with
     |none=>rw[hx']at hk;cases hk
     |some x' =>
      rw[hx']at hk;simp only[K1]at hk;split at hk
      ·rename_i hc;have hn:=k7.1 hk;obtain⟨J2,hr2⟩:=Shp.dec_ok hK hx' h1;refine⟨(k,(un x').2),J2,hn,Hl k,?_⟩;have e:=hmk x';rw[hc]at e;rw[e];exact hr2
      ·cases hk
    |exit id' =>
     have hk1:(bif Nat.beq id' id then(match shE.dec X.N X.kp s' with|some y=>D1 (unE y).1 (unE y).2|none=>none)else none)=some ():=hpost;have hid' :=ax (ai hk1).1;have hk:=(ai hk1).2;cases hx' :shE.dec X.N X.kp s' with
     |none=>rw[hx']at hk;cases hk
     |some y=>
      rw[hx']at hk;simp only[D1]at hk;split at hk
      ·rename_i hc;have hn:=k7.1 hk;obtain⟨J2,hr2⟩:=Shp.dec_ok hK hx' h1;refine⟨shE.enc (mkE (pE c) (unE y).2),J2,?_,hid',hn⟩;have e:=hmkE y;rw[hc]at e;rw[e];exact hr2
      ·cases hk
    |ret=>
     obtain⟨x',hres,hk⟩:=hpost;exact⟨s',J',h1,x',hres,k7.1 hk⟩
    |_=>exact hpost.elim
  have hloop:=CW.loop (P:=P) (Q:=fun e s' =>match e with| .exit id' =>id' =id/\kn s' =some r| .ret=>∃x,X.res s' =some x/\kr x=some r|_=>False) (fun p:Nat×S=>shI.enc (mk c p.2)) (fun p=>ndN (stepK c) (fun e=>kn (shE.enc (mkE (pE c) e))) kr r p.1 p.2) (fun p=>p.1) hround (n0,a0) hn0;refine wp_block (K0 ?_ (hloop av w J1 hr1));rintro e a' w' ⟨s',J',h1,h2⟩;cases e with
  |normal=>exact h2.elim
  |exit id' =>
   obtain⟨rfl,hk⟩:=h2;simp only[Exit.inBlock,Kw];exact⟨s',J',h1,hk⟩
  |ret=>exact⟨s',J',h1,h2⟩
  |_=>exact h2.elim
end
end Go.K
namespace Go.K
open Go.M Go.RowKit
def rc(f:Func)(p:Nat):RngC:=zfc (jc f p)
section
variable {P : Program} {Rf : Type}
theorem nl{X:Ctx Rf}{n id:Nat}{f:Func}{p:Nat}{shI shE:Shp}{C S CE E:Type}{un:shI.den->C×S}{mkE:CE->E->shE.den}{pE:C->CE}
  {stepK:{R:Type}->C->S->(S->Option R)->(E->Option R)->(Rf->Option R)->Option R}
  (hΛ:X.Λ n=some (q7p Rf X.N X.kp shI un shE mkE pE stepK)) (hX:CtxM P X) (ann:Ann) {l:List (Nat×Code)} (hl:qt5 P X l) (mk:C->S->shI.den) (unE:shE.den->CE×E)
  (hs:qw (jc f p) ann=l:=by kernel_rfl) (hmk:∀x,mk (un x).1 (un x).2=x:=by intro _;kernel_rfl) (hmkE:∀y,mkE (unE y).1 (unE y).2=y:=by intro _;kernel_rfl)
  (hpar:∀(R:Type) (K:C->S->Option R) (D:CE->E->Option R) (T:Rf->Option R) (c:C) (a:S),
   den X (jc f p) ann (shI.enc (mk c a)) (fun s' =>match shI.dec X.N X.kp s' with|some x=>K (un x).1 (un x).2|none=>none)
    (fun id' s' =>bif Nat.beq id' id then(match shE.dec X.N X.kp s' with|some y=>D (unE y).1 (unE y).2|none=>none)else none) T=stepK c a (K c) (D (pE c)) T:=by intro R K D T c a;kernel_rfl):
  a8 P X n (lc id f p):=
 zcz hX.ok hX.mix (qt5.all hs hl) hΛ hmk hmkE hpar
theorem rl{X:Ctx Rf}{n:Nat}{p:RngC}{shI:Shp}{C S:Type}{un:shI.den->C×S}{mk:C->S->shI.den}(kt vt:Ty){esF:C->List (kt.den×vt.den)}{stepK:{R:Type}->C->S->(kt.den×vt.den)->(S->Option R)->(Rf->Option R)->Option R}
  (hΛ:X.Λ n=some (qf6 Rf X.N X.tt X.wr X.kp p shI un mk esF stepK)) (hX:CtxM P X) (ann:Ann) {l:List (Nat×Code)} (hl:qt5 P X l) (ty m d0 d1 d3:Nat) (fr:Bool) {kk ee:TypeId} {b1 b2:Nat} {z1:List Value} (htt:X.tt ty=some ⟨.map kk ee,b1,b2,z1⟩)
  (hs:qw p.body ann=l:=by kernel_rfl) (hp:p.Ok ty m d0 d1 d3:=by exact⟨by kernel_rfl,by kernel_rfl,by kernel_rfl,by kernel_rfl,by kernel_rfl,by kernel_rfl,by kernel_rfl,by kernel_rfl,by kernel_rfl,by kernel_rfl,by kernel_rfl,by kernel_rfl,by kernel_rfl,by kernel_rfl,by kernel_rfl⟩)
  (hcell:vt.cell=true:=by kernel_rfl) (hmk:∀x,mk (un x).1 (un x).2=x:=by intro _;kernel_rfl) (hsl:jn9 [d0,d1,p.b,d3] shI.sl=true:=by kernel_rfl)
  (hN:(Nat.blt d0 X.N&&Nat.blt m X.N&&Nat.blt d1 X.N&&Nat.blt p.b X.N&&Nat.blt d3 X.N)=true:=by kernel_rfl)
  (hmap:∀c a,bu (shI.enc (mk c a)).S m= .dm fr kt vt (esF c):=by intro c a;kernel_rfl)
  (hpar:∀(R:Type) (K:Nat->C->S->Option R) (T:Rf->Option R) (r:Nat) (c:C) (a:S) (e:kt.den×vt.den),
   jlt X (p.o3::p.rest) p.rest (zam shI mk d0 d1 p.b d3 fr kt vt r c a e) (fun s1=>den X p.body ann s1 (q2f X.N X.kp shI un d0 K) (fun i s' =>bif Nat.beq i p.id3 then q2f X.N X.kp shI un d0 K s' else none) T)=stepK c a e (K r c) T:=by intro R K T r c a e;kernel_rfl):
  a8 P X n p.code:=
 jzt hX.ok hX.mix (qt5.all hs hl) hp htt hcell hΛ hmk hsl hN hmap hpar
end
end Go.K
namespace Go.K
def ltL:List Int->List Int->Bool
 |_,[]=>false
 |[],_::_=>true
 |a::l,b::m=>if a=b then ltL l m else decide (a<b)
def jvd(x:List Int):List (List Int)->List (List Int)
 |[]=>[x]
 |y::l=>if ltL y x then y::jvd x l else x::y::l
def srt:List (List Int)->List (List Int)
 |[]=>[]
 |x::l=>jvd x (srt l)
def j0e(d:List (List Int)):Option (List (List Int)):=if d.length<4611686018427387904 then some (srt d)else none
end Go.K
namespace Go.K
open Go.M Go.RowKit
section
variable {P : Program}
abbrev rmX(N:Nat)(tt:TT)(wr dt:Bool)(kp:List Bool)(gl:List (FuncId×Mdl))(rs:List ResultVar)(sh:Shp):Ctx sh.den:=⟨N,tt,wr,dt,kp,gp gl,iw [],bx N tt kp rs sh (fun x=>x)⟩
def rmF(fn:Func)(N:Nat)(tt:TT)(wr dt:Bool)(kp:List Bool)(gl:List (FuncId×Mdl))(rs:List ResultVar)(l:ShL)(objs:List Hs)(sh:Shp)(ann:Ann)(a:l.den×na objs):Option sh.den:=
 den (rmX N tt wr dt kp gl rs sh) (qba fn) ann ⟨qmh 0 (l.enc a.1),du objs a.2⟩ (bx N tt kp rs sh (fun x=>x)) (fun _ _=>none) some
noncomputable abbrev c9(fn:Func)(N:Nat)(tt:TT)(wr dt:Bool)(kp:List Bool)(gl:List (FuncId×Mdl))(rs:List ResultVar)(l:ShL)(objs:List Hs)(sh:Shp)(ann:Ann):Mdl:=ar l objs kp rs.length sh (B:=sh.den) (fun b=>b) (rmF fn N tt wr dt kp gl rs l objs sh ann)
theorem c8{f:FuncId}{fn:Func}{N:Nat}{tt:TT}{wr dt:Bool}{kp:List Bool}{gl:List (FuncId×Mdl)}{rs:List ResultVar}{l:ShL}{objs:List Hs}{sh:Shp}{ann:Ann}(hf:P.funcs[f]? =some fn)(hF:dq P tt)(hm:P.follows .mixedOrders=true)(hg:jcn P gl)
  (hname:(fn.name== "runtime.NumGoroutine")=false:=by kernel_rfl) (hb:fn.body=some (qba fn):=by kernel_rfl) (hN:fn.ntmps=N:=by kernel_rfl) (hrs:fn.results=rs.toArray:=by kernel_rfl) (hs:qw (qba fn) ann=[]:=by kernel_rfl) (hl:Nat.ble l.len N=true:=by kernel_rfl) (hfr:sh.frB=true:=by kernel_rfl) (ht:∀t nm g lo,mtG t nm=some (g,lo)->qu8 P t nm g lo:=by intro _ _ _ _ h;cases h):
  MdlOK P f (c9 fn N tt wr dt kp gl rs l objs sh ann):=
 jf (X:=rmX N tt wr dt kp gl rs sh) (un:=fun x=>x) hf rfl (iy hF hm hg ht) ann s0 hname hb hN hrs (fun _=>rfl) hs hl hfr (fun _=>rfl)
noncomputable abbrev rmN(f:FuncId)(fn:Func)(N:Nat)(tt:TT)(wr dt:Bool)(kp:List Bool)(gl:List (FuncId×Mdl))(rs:List ResultVar)(l:ShL)(objs:List Hs)(sh:Shp)(ann:Ann):Mdl:=
 ar l objs kp rs.length sh (B:=sh.den) (fun b=>b) (fun a=>zag (fun rec a=>rmF fn N tt wr dt kp ((f,ar l objs kp rs.length sh (B:=sh.den) (fun b=>b) rec)::gl) rs l objs sh ann a) many a)
theorem rmR{f:FuncId}{fn:Func}{N:Nat}{tt:TT}{wr dt:Bool}{kp:List Bool}{gl:List (FuncId×Mdl)}{rs:List ResultVar}{l:ShL}{objs:List Hs}{sh:Shp}{ann:Ann}(hf:P.funcs[f]? =some fn)(hF:dq P tt)(hm:P.follows .mixedOrders=true)(hg:jcn P gl)
  (hname:(fn.name== "runtime.NumGoroutine")=false:=by kernel_rfl) (hb:fn.body=some (qba fn):=by kernel_rfl) (hN:fn.ntmps=N:=by kernel_rfl) (hrs:fn.results=rs.toArray:=by kernel_rfl) (hs:qw (qba fn) ann=[]:=by kernel_rfl) (hl:Nat.ble l.len N=true:=by kernel_rfl) (hfr:sh.frB=true:=by kernel_rfl) (ht:∀t nm g lo,mtG t nm=some (g,lo)->qu8 P t nm g lo:=by intro _ _ _ _ h;cases h):
  MdlOK P f (rmN f fn N tt wr dt kp gl rs l objs sh ann):=
 zah (B:=sh.den) (F:=fun rec a=>rmF fn N tt wr dt kp ((f,ar l objs kp rs.length sh (B:=sh.den) (fun b=>b) rec)::gl) rs l objs sh ann a) hf hname hb hfr fun _ hrec=>c8 hf hF hm ⟨hrec,hg⟩ hname hb hN hrs hs hl hfr ht
abbrev zc5(N:Nat)(tt:TT)(wr dt:Bool)(kp:List Bool)(gl:List (FuncId×Mdl))(rs:List ResultVar)(sh1 sh2:Shp):Ctx (sh1.den⊕sh2.den):=⟨N,tt,wr,dt,kp,gp gl,iw [],jiy N tt kp rs sh1 sh2 (fun x=>x) (fun x=>x)⟩
def zfa(fn:Func)(N:Nat)(tt:TT)(wr dt:Bool)(kp:List Bool)(gl:List (FuncId×Mdl))(rs:List ResultVar)(l:ShL)(objs:List Hs)(sh1 sh2:Shp)(ann:Ann)(a:l.den×na objs):Option (sh1.den⊕sh2.den):=
 den (zc5 N tt wr dt kp gl rs sh1 sh2) (qba fn) ann ⟨qmh 0 (l.enc a.1),du objs a.2⟩ (jiy N tt kp rs sh1 sh2 (fun x=>x) (fun x=>x)) (fun _ _=>none) some
noncomputable abbrev j3m(fn:Func)(N:Nat)(tt:TT)(wr dt:Bool)(kp:List Bool)(gl:List (FuncId×Mdl))(rs:List ResultVar)(l:ShL)(objs:List Hs)(sh1 sh2:Shp)(ann:Ann):Mdl:=jk4 l objs kp rs.length sh1 sh2 (B1:=sh1.den) (B2:=sh2.den) (fun b=>b) (fun b=>b) (zfa fn N tt wr dt kp gl rs l objs sh1 sh2 ann)
theorem zal{f:FuncId}{fn:Func}{N:Nat}{tt:TT}{wr dt:Bool}{kp:List Bool}{gl:List (FuncId×Mdl)}{rs:List ResultVar}{l:ShL}{objs:List Hs}{sh1 sh2:Shp}{ann:Ann}(hf:P.funcs[f]? =some fn)(hF:dq P tt)(hm:P.follows .mixedOrders=true)(hg:jcn P gl)
  (hname:(fn.name== "runtime.NumGoroutine")=false:=by kernel_rfl) (hb:fn.body=some (qba fn):=by kernel_rfl) (hN:fn.ntmps=N:=by kernel_rfl) (hrs:fn.results=rs.toArray:=by kernel_rfl) (hs:qw (qba fn) ann=[]:=by kernel_rfl) (hl:Nat.ble l.len N=true:=by kernel_rfl) (hfr1:sh1.frB=true:=by kernel_rfl) (hfr2:sh2.frB=true:=by kernel_rfl) (ht:∀t nm g lo,mtG t nm=some (g,lo)->qu8 P t nm g lo:=by intro _ _ _ _ h;cases h):
  MdlOK P f (j3m fn N tt wr dt kp gl rs l objs sh1 sh2 ann):=
 zcu (X:=zc5 N tt wr dt kp gl rs sh1 sh2) (un1:=fun x=>x) (un2:=fun x=>x) hf rfl (iy hF hm hg ht) ann s0 hname hb hN hrs (fun _=>rfl) (fun _=>rfl) hs hl hfr1 hfr2 (fun _=>rfl)
theorem q4m{f:FuncId}{l:ShL}{objs:List Hs}{kp:List Bool}{k:Nat}{sh:Shp}{B:Type}{mk:B->sh.den}{m m' :l.den×na objs->Option B}(h:MdlOK P f (ar l objs kp k sh mk m))(hm:∀a b,m' a=some b->m a=some b):MdlOK P f (ar l objs kp k sh mk m'):=
 ⟨h.fn,fun a b hb=>h.run a b (hm a b hb),h.dec,fun a b hb=>h.fresh a b (hm a b hb),h.cs⟩
end
end Go.K
namespace Go.K
open Go.M
section
variable {P : Program}
theorem jrg{w:World}{ad:Addr}:(asAddr (.pointer (some ad))).run P w= .ok ad w:=rfl
theorem jz2{w:World}{ad:Addr}{x y:TypeId}{a b:String}:(Builtin.ssaWrapNilChk_ #[x] y #[.pointer (some ad),strVal a,strVal b]).run P w= .ok (.pointer (some ad)) w:=rfl
theorem jn2{t:TypeId}{nm:String}{g:FuncId}{el:TypeId}(hk:Nat.blt 0 P.types.size=true)(hq:((P.info? t).bind fun i=>i.methods.find? (·.name==nm)).map (fun m=>(m.path,m.func))=some (#[],some (g,true)))(hu:P.underlying t=some (.pointer el)):qu8 P t nm g none:=by
 intro ad v w h;simp only at h;subst h;obtain⟨k,hk⟩:∃k,P.types.size+Made.depth=k+1:=⟨P.types.size+Made.depth-1,by have:=cm hk;omega⟩;rw[hk];cases hi:P.info? t with
 |none=>rw[hi]at hq;cases hq
 |some i=>
  rw[hi]at hq;simp only[Option.bind_some]at hq;cases hf:i.methods.find? (·.name==nm)with
  |none=>rw[hf]at hq;cases hq
  |some m=>
   rw[hf]at hq;simp only[Wd,Wb,Wj]at hq;unfold method;simp[typeInfo,run_program,hi,hf,hq.1,hq.2,follow,receiverAt,Wq hu,Place.get]
theorem jd2{t:TypeId}{nm:String}{g:FuncId}{el:TypeId}(hk:Nat.blt 0 P.types.size=true)(hq:((P.info? t).bind fun i=>i.methods.find? (·.name==nm)).map (fun m=>(m.path,m.func))=some (#[],some (g,false)))(hu:P.underlying t=some (.pointer el)):qu8 P t nm g (some el):=by
 intro ad v w h;simp only at h;obtain⟨k,hk⟩:∃k,P.types.size+Made.depth=k+1:=⟨P.types.size+Made.depth-1,by have:=cm hk;omega⟩;rw[hk];cases hi:P.info? t with
 |none=>rw[hi]at hq;cases hq
 |some i=>
  rw[hi]at hq;simp only[Option.bind_some]at hq;cases hf:i.methods.find? (·.name==nm)with
  |none=>rw[hf]at hq;cases hq
  |some m=>
   rw[hf]at hq;simp only[Wd,Wb,Wj]at hq;have hl:(loadVar el ad).run P w= .ok v w:=by
    unfold Instr.loadAt at h;simpa[Instr.sureAddr]using h
   unfold method;simp[typeInfo,run_program,hi,hf,hq.1,hq.2,follow,receiverAt,Wq hu,Place.get,jz2,jrg,hl]
end
end Go.K
