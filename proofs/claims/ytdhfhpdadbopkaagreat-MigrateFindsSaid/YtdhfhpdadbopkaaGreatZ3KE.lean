/-
  A typed machine over the model's memory (part KE). No program is named.
-/
import Derived.ProofKit
import Derived.Deep.Slices
import Derived.Deep.Fields
import Derived.ChangeSame
import Derived.Below
import Derived.Carry
import Derived.OpenShut
import Derived.KernelRfl
import Derived.Test.YtdhfhpdadbopkaaGreatZ3KD
set_option linter.all false
namespace Go.K
open Go.M Go.RowKit
section
variable {U U' : Nat → Prop} {w0 : World} {σ0 : Pl} {K : Nat → Bool} {H Hv : List TOb} {w : World} {σ : Pl} {ρ : Rho} {bo : Bool} {l : List Hs} {y : yb l}
theorem q74(hl:HLe (fun _=>False) Hv H){i tg:Nat}{ty:TypeId}{md md' :Md}{its:List TypeId}{t:Ty}{xs:List t.den}{H' :List TOb}(ho:Hv[tg]? =some (.arr ty md' its t xs))(ho' :H'[i]? =some (.arr ty md its t xs))(hm:jam md md' =true)(j f:Nat):
  vw H' (.r i j f)=vw H (.r tg j f):=by
 rw[lq ho',lq (hl.ob ho)];have:md.isOwn=md'.isOwn:=by cases md<;>cases md' <;>simp_all[jam,Md.isOwn]
 rw[this]
theorem jle(hr:HR U w0 σ0 K (vw H) w σ)(hl:HLe (fun _=>False) Hv H)(hok:qmz ρ=true)(hu:∀b,U' b→U b∨gm σ b)(hnb:bo=false→∀b,U' b→U b)(hy:qi6 bo ρ Hv ρ l=some y):Cv U U' w0 σ0 K H Hv (f8 l y) w σ ρ bo:=by
 obtain⟨_,_,hat⟩:=qrd ρ l y hy;refine⟨hr,hl,hok,hu,hnb,fun i tg hi=> ?_,fun i hi=> ?_,fun i tg hi j f q hq=> ?_⟩
 ·obtain⟨hs,xi,h1,h2⟩:=hat i _ hi;rcases Hs.dec_cases h1 with⟨e,_⟩|⟨tg',ty,md,md',its,t,xs,e,ho,_,he⟩|⟨tg',ty,sz,n,m,cs,x,e,ho,_,_,he⟩|⟨tg',kt,vt,es,e,ho,he⟩
  ·cases e
  ·cases e;rw[he]at h2;simp only[aj,az h2,az (hl.ob ho),Option.map_some]
  ·cases e;rw[he]at h2;simp only[aj,qal h2,qal (hl.obc ho),Option.map_some]
  ·cases e;rw[he]at h2;simp only[aj,qkg h2,qkg (hl.obm ho),Option.map_some]
 ·obtain⟨hs,xi,h1,h2⟩:=hat i _ hi;rcases Hs.dec_cases h1 with⟨_,ty,md,its,t,_,he⟩|⟨tg',ty,md,md',its,t,xs,e,_⟩|⟨tg',ty,sz,n,m,cs,x,e,_⟩|⟨tg',kt,vt,es,e,_⟩
  ·rw[he]at h2;exact⟨t.sz,by simp only[aj,az h2,Option.map_some];rfl⟩
  ·cases e
  ·cases e
  ·cases e
 ·obtain⟨hs,xi,h1,h2⟩:=hat i _ hi;rcases Hs.dec_cases h1 with⟨e,_⟩|⟨tg',ty,md,md',its,t,xs,e,ho,hm,he⟩|⟨tg',ty,sz,n,m,cs,x,e,ho,_,_,he⟩|⟨tg',kt,vt,es,e,ho,he⟩
  ·cases e
  ·cases e;rw[he]at h2;simp only[aj]at hq⊢;rw[q74 hl ho h2 hm j f];exact hq
  ·cases e;simp only[aj,vw,hl.obc ho,vwR,Option.map_none]at hq;cases hq
  ·cases e;simp only[aj,vw,hl.obm ho,vwR,Option.map_none]at hq;cases hq
theorem jir(hr:HR U w0 σ0 K (vw H) w σ)(hok:qmz ρ=true):∀T T' g o o',p9 ρ σ T=some (g,o)→p9 ρ σ T' =some (g,o')→T=T' :=by
 intro T T' g o o' h1 h2;obtain⟨tg,e1,e2⟩:=qaz h1;obtain⟨tg',e3,e4⟩:=qaz h2;have e:=hr.inj _ _ _ _ _ e2 e4;have et:tg=tg' :=by have:=congrArg TG.ob e;simpa only[TG.at_ob]using this
 subst et;exact TG.at_inj e (qwd hok e1 e3)
theorem jiq(hr:HR U w0 σ0 K (vw H) w σ)(hl:HLe (fun _=>False) Hv H)(hy:qi6 bo ρ Hv ρ l=some y):∀T p,p9 ρ σ T=some p→∃v,vw (f8 l y) T=some v:=by
 intro T p hp;obtain⟨tg,e1,e2⟩:=qaz hp;obtain⟨v,hv⟩:=hr.dom _ _ e2;obtain⟨hs,xi,h1,h2⟩:=(qrd ρ l y hy).2.2 _ _ e1;rcases Hs.dec_cases h1 with⟨e,_⟩|⟨tg',ty,md,md',its,t,xs,e,ho,hm,he⟩|⟨tg',ty,sz,n,m,cs,x,e,ho,_,_,he⟩|⟨tg',kt,vt,es,e,ho,he⟩
 ·cases e
 ·cases e;rw[he]at h2;cases T with
  |o i=>exact⟨_,az h2⟩
  |r i j f=>exact⟨v,(q74 hl ho (i:=i) h2 hm j f).trans hv⟩
 ·cases e;rw[he]at h2;cases T with
  |o i=>exact⟨_,qal h2⟩
  |r i j f=>
   simp only[TG.at,vw,hl.obc ho,vwR]at hv;cases hv
 ·cases e;rw[he]at h2;cases T with
  |o i=>exact⟨_,qkg h2⟩
  |r i j f=>
   simp only[TG.at,vw,hl.obm ho,vwR]at hv;cases hv
theorem jis(h:Cv U U' w0 σ0 K H Hv (f8 l y) w σ ρ bo)(hy:qi6 bo ρ Hv ρ l=some y):∀T v,vw (f8 l y) T=some v→OR (gr U' (vw (f8 l y)) w (p9 ρ σ)) (p9 ρ σ T) v:=by
 intro T v hv;obtain⟨hlen,hlen',hat⟩:=qrd ρ l y hy;have hlt:T.ob<(f8 l y).length:=by
  cases T with
  |o i=>
   simp only[vw]at hv;rcases Nat.lt_or_ge i (f8 l y).length with h1|h1
   ·exact h1
   ·rw[List.getElem?_eq_none h1]at hv;cases hv
  |r i j f=>
   simp only[vw]at hv;rcases Nat.lt_or_ge i (f8 l y).length with h1|h1
   ·exact h1
   ·rw[List.getElem?_eq_none h1]at hv;cases hv
 have hρ:ρ[T.ob]? =some ρ[T.ob]:=List.getElem?_eq_getElem (by omega);obtain⟨hs,xi,h1,h2⟩:=hat _ _ hρ;rcases Hs.dec_cases h1 with⟨e,ty,md,its,t,hm,he⟩|⟨tg,ty,md,md',its,t,xs,e,ho,hm,he⟩|⟨tg,ty,sz,n,m,cs,x,e,ho,hd,hn0,he⟩|⟨tg,kt,vt,es,e,ho,he⟩
 ·rw[e]at hρ;have:p9 ρ σ T=none:=by simp only[p9,hρ]
  rw[this];rw[he]at h2;cases T with
  |o i=>
   have h2:(f8 l y)[i]? =_:=h2;rw[az h2]at hv;cases hv;rfl
  |r i j f=>
   have h2:(f8 l y)[i]? =_:=h2;rw[lq h2,if_neg (by simp)]at hv;cases hv
 ·rw[e]at hρ;rw[qdf hρ];rw[he]at h2;have ho' :=h.le.ob ho;cases T with
  |o i=>
   have h2:(f8 l y)[i]? =_:=h2;rw[az h2]at hv;cases hv;have hob:=h.hr.obj _ _ (az ho');show OR _ (σ (.o tg)) _;cases hp:σ (.o tg)with
   |none=>rw[hp]at hob;exact hob
   |some p=>
    rw[hp]at hob;obtain⟨g,o⟩:=p;rcases hob with⟨hp0,cur,c,h3,h4,h5,h6⟩|⟨h3,h4,es,k,hh,hmo⟩
    rotate_left
    ·exact .inr ⟨h3,h4,es,k,hh,hmo.sb (θ:=fun _=> .id) fun i f=>jc9 (A:=cj tg md' t xs i f) (B:=cj _ md t xs i f) (qd5 h3) (qd5 h3)⟩
    refine .inl ⟨hp0,cur,c,h3,h4,h5,fun j f hj hf=> ?_⟩;obtain⟨u,hu,h7,hV⟩:=h6 j f hj hf;refine⟨u,hu,h7,?_⟩;simp only[]at hV hf hj⊢;cases md with
    |fz fr=>
     cases md' with
     |fz fr' =>
      rw[nk]at hV⊢;have hC:=(Ty.C_iff (gr U (vw H) w σ) fr' t _ f u hf).2 hV;refine(Ty.C_iff (gr U' (vw (f8 l y)) w (p9 ρ σ)) fr t _ f u hf).1 (Ty.C_low (w:=w) (w' :=w) ⟨Nat.le_refl _,fun b hb hY hY' =>(h.low fr).ex b hb (fun hY2=>hY ?_) hY',fun _ _ _=>rfl⟩ t _ f u hC);rcases hY2 with e|⟨e1,e2⟩
      ·exact .inl e
      ·exact .inr ⟨qrb hm e1,e2⟩
     |_=>simp[jam]at hm
    |own=>
     cases md' with
     |own=>
      unfold cj at hV⊢;simp only[Md.fr]at hV⊢;split at hV
      ·rename_i fr0 v0 ys0 hc;obtain⟨n0,sz0,hI,hs0⟩:=hV;have hk:=q74 h.le ho h2 hm j f;refine⟨n0,sz0,?_,?_⟩
       ·show aj (vw (f8 l y)) _=_;simp only[aj,TG.ob]at hk⊢;rw[hk];exact hI
       ·rcases hs0 with hs0|⟨g1,o1,c1,cur1,e1,hσ1,r1⟩
        ·exact .inl hs0
        ·exact .inr ⟨g1,o1,c1,cur1,e1,(qdf (T:= .r i j f) hρ).trans hσ1,r1⟩
      ·rename_i hns;have hform:=Ty.cells_form true t (xs.getD j t.dft);have hmem:(t.cells true (xs.getD j t.dft)).getD f .any∈t.cells true (xs.getD j t.dft):=by
        have hlt2:f<(t.cells true (xs.getD j t.dft)).length:=by rw[Ty.cells_len];exact hf
        generalize t.cells true (xs.getD j t.dft)=L at hlt2;rw[List.getD_eq_getElem?_getD,List.getElem?_eq_getElem hlt2];exact List.getElem_mem _
       have hf1:=hform _ hmem;generalize(t.cells true (xs.getD j t.dft)).getD f .any=A at hns hV hf1;cases A with
       |int k n=>exact hV
       |bool b=>exact hV
       |val u=>exact hV
       |sl fr0 t0 xs0=>exact absurd rfl (hns fr0 t0 xs0)
       |_=>simp[wo]at hf1
     |_=>simp[jam]at hm
    |hole i0 f0=>cases md' <;>simp[jam]at hm
    |swap i0 j0=>cases md' <;>simp[jam]at hm
  |r i j f=>
   have h2:(f8 l y)[i]? =_:=h2;have hk:=q74 h.le ho h2 hm j f;rw[hk]at hv;have hob:=h.hr.obj _ _ hv;show OR _ (σ (.r tg j f)) _;cases hp:σ (.r tg j f)with
   |none=>rw[hp]at hob;exact hob
   |some p=>
    rw[hp]at hob;obtain⟨g,o⟩:=p;rcases hob with⟨hp0,cur,c,h3,h4,h5,h6⟩|⟨h3,h4,es,k,hh,hmo⟩
    rotate_left
    ·exact .inr ⟨h3,h4,es,k,hh,hmo⟩
    refine .inl ⟨hp0,cur,c,h3,h4,h5,fun j' f' hj hf=> ?_⟩;obtain⟨u,hu,h7,hV⟩:=h6 j' f' hj hf;refine⟨u,hu,h7,?_⟩;rw[lq ho']at hv;split at hv
    ·cases hin:em t (xs.getD j t.dft) f with
     |none=>rw[hin]at hv;cases hv
     |some z=>
      obtain⟨v0,ys0⟩:=z;rw[hin]at hv;cases hv;have hC:=(Ty.C_iff (gr U (vw H) w σ) true v0 _ f' u hf).2 hV;exact(Ty.C_iff (gr U' (vw (f8 l y)) w (p9 ρ σ)) true v0 _ f' u hf).1 (Ty.C_low (h.low true) v0 _ f' u hC)
    ·cases hv
 ·rw[e]at hρ;rw[qdf hρ];rw[he]at h2;have ho' :=h.le.obc ho;cases T with
  |o i=>
   have h2:(f8 l y)[i]? =_:=h2;rw[qal h2]at hv;cases hv;have hob:=h.hr.obj _ _ (qal ho');show OR _ (σ (.o tg)) _;cases hp:σ (.o tg)with
   |none=>rw[hp]at hob;exact hob
   |some p=>
    rw[hp]at hob;obtain⟨g,o⟩:=p;obtain⟨cur,c,h3,h4,h5,h6⟩:=hob.cells (.inr hn0);refine .inl ⟨.inr hn0,cur,c,h3,h4,h5,fun j f hj hf=> ?_⟩;obtain⟨u,hu,h7,hV⟩:=h6 j f hj hf;exact⟨u,hu,h7,ShL.dec_at h m cs x hd _ u hV⟩
  |r i j f=>
   have h2:(f8 l y)[i]? =_:=h2;simp only[vw,h2,vwR]at hv;cases hv
 ·rw[e]at hρ;rw[qdf hρ];rw[he]at h2;have ho' :=h.le.obm ho;cases T with
  |o i=>
   have h2:(f8 l y)[i]? =_:=h2;rw[qkg h2]at hv;cases hv;have hob:=h.hr.obj _ _ (qkg ho');show OR _ (σ (.o tg)) _;cases hp:σ (.o tg)with
   |none=>rfl
   |some p=>
    rw[hp]at hob;obtain⟨g,o⟩:=p;obtain⟨es,k,hh,hmo⟩:=hob.map rfl rfl;exact .inr ⟨rfl,rfl,es,k,hh,hmo⟩
  |r i j f=>
   have h2:(f8 l y)[i]? =_:=h2;simp only[vw,h2,vwR]at hv;cases hv
end
end Go.K
namespace Go.K
open Go.M Go.RowKit
section
variable {U : Nat → Prop} {w0 : World} {σ0 : Pl} {K : Nat → Bool} {w : World} {σ : Pl} {ρ : Rho}
theorem q7b:∀{kp:List Bool} {t0:Nat} {ρ:Rho},jf3 t0 kp ρ=true→∀t,cf kp t=true→ρ[t0+t]? =some (some (t0+t))
 |[],_,_,_,t,h=>by simp[cf]at h
 |true::kp,t0,ρ,h,t,hk=>by
  simp only[jf3,Bool.and_eq_true]at h;cases t with
  |zero=>
   have h1:=h.1;split at h1
   ·rename_i t' e;rw[Nat.add_zero,e,bc h1]
   ·cases h1
  |succ t=>
   have:=q7b h.2 t (by simpa[cf]using hk);rw[show t0+(t+1)=t0+1+t by omega];exact this
 |false::kp,t0,ρ,h,t,hk=>by
  cases t with
  |zero=>simp[cf]at hk
  |succ t=>
   have:=q7b (kp:=kp) (t0:=t0+1) (ρ:=ρ) h t (by simpa[cf]using hk);rw[show t0+(t+1)=t0+1+t by omega];exact this
theorem js0{H:List TOb}{l:List Hs}{y:yb l}{kp:List Bool}(hK:∀t,cf kp t=false→K t=false)(hr:HR U w0 σ0 K (vw H) w σ)(hok:qmz ρ=true)(hkp:jf3 0 kp ρ=true)(hy:qi6 false ρ H ρ l=some y):
  Cv U U w0 σ0 K H H (f8 l y) w σ ρ false∧HR U w0 σ0 K (vw (f8 l y)) w (p9 ρ σ):=by
 have hcv:Cv U U w0 σ0 K H H (f8 l y) w σ ρ false:=jle hr (HLe.refl H) hok (fun b h=> .inl h) (fun _ b h=>h) hy;refine⟨hcv,jir hr hok,jiq hr (HLe.refl H) hy,jis hcv hy,fun T g o hT=> ?_,hr.os,hr.tape,hr.output,hr.size,hr.blk,fun t ht=> ?_,hr.ksz,hr.ulow⟩
 ·obtain⟨tg,_,h2⟩:=qaz hT;exact hr.own _ _ _ h2
 ·have hk:cf kp t=true:=by
   cases hb:cf kp t with
   |true=>rfl
   |false=>rw[hK t hb]at ht;cases ht
  have:=q7b hkp t hk;rw[Nat.zero_add]at this;rw[qdf (T:= .o t) this];exact hr.keep t ht
theorem qvq(ρ:List Nat)(σ:Pl):p9 (ρ.map some) σ=ql8 ρ σ:=by
 funext T;unfold p9 ql8;by_cases h:T.ob<ρ.length
 ·rw[if_pos h,List.getElem?_map,List.getElem?_eq_getElem h,List.getD_eq_getElem?_getD,List.getElem?_eq_getElem h];rfl
 ·rw[if_neg h,List.getElem?_map,List.getElem?_eq_none (by omega)];rfl
theorem jc7{ρ:List Nat}{t:Nat}:qb t (ρ.map some)=inL t ρ:=by
 cases h:inL t ρ with
 |true=>rw[qzm]at h;exact qiw.2 (List.mem_map.2 ⟨t,h,rfl⟩)
 |false=>
  rw[qrf]at h;refine qez.2 fun hm=> ?_
  obtain⟨t',h1,h2⟩:=List.mem_map.1 hm;injection h2 with h2
  subst h2;exact h h1
theorem jqf{H Hv:List TOb}{l:List Hs}{y:yb l}{ρ:List Nat}(K' :Nat→Bool)(hr:HR U w0 σ0 K (vw H) w σ)(hl:HLe (fun _=>False) Hv H)(hok:qmz (ρ.map some)=true)(hy:qi6 true (ρ.map some) Hv (ρ.map some) l=some y):
  Cv U (qd3 ρ U σ) w0 σ0 K H Hv (f8 l y) w σ (ρ.map some) true∧HR (qd3 ρ U σ) w (ql8 ρ σ) K' (vw (f8 l y)) w (ql8 ρ σ):=by
 have hcv:Cv U (qd3 ρ U σ) w0 σ0 K H Hv (f8 l y) w σ (ρ.map some) true:=jle hr hl hok (fun b h=>h.imp id fun⟨T,o,h1,_⟩=>⟨T,o,h1⟩) (fun e=>by cases e) hy;refine⟨hcv,?_⟩;have hi:=jir hr hok;have hd:=jiq hr hl hy;have ho:=jis hcv hy;rw[qvq]at hi hd ho;refine⟨hi,hd,ho,fun T g o hT=>⟨?_, .inr ⟨T,o,hT⟩⟩,rfl,rfl,rfl,Nat.le_refl _,fun _ _ _=>rfl,fun _ _=>rfl,fun t g o _ _ cur e hc=>⟨cur,hc,rfl⟩,fun b hb=> ?_⟩
 ·rw[←qvq]at hT;obtain⟨tg,h1,h2⟩:=qaz hT;rintro(hu|⟨T',o',h3,h4⟩)
  ·exact(hr.own _ _ _ h2).1 hu
  ·have e:=hr.inj _ _ _ _ _ h2 h3;rw[←e,TG.at_ob,←jc7]at h4;exact qez.1 h4 (List.mem_of_getElem? h1)
 ·rcases hb with hu|⟨T',o',h3,_⟩
  ·exact Nat.lt_of_lt_of_le (hr.ulow b hu) hr.size
  ·exact hr.lt h3
theorem jbh{bo:Bool}{s:TS}:∀(l:List (Nat×Sh)) (x:q6d l),jes bo ρ s l=some x→∀t,cw (qkf l x) t= .any∨∃(sh:Sh) (xi:sh.den),sh.dec bo ρ s.H (cw s.S t)=some xi∧cw (qkf l x) t=sh.enc xi
 |[],x,h,t=> .inl rfl
 |p::l,x,h,t=>by
  unfold jes at h;split at h
  ·rename_i x1 hx;split at h
   ·rename_i y hy;cases h;simp only[qkf,qdy];by_cases e:p.1=t
    ·rw[if_pos e,←e];exact .inr ⟨p.2,x1,hx,rfl⟩
    ·rw[if_neg e];exact jbh l y hy t
   ·cases h
  ·cases h
end
end Go.K
namespace Go.K
open Go.M Go.RowKit
section
variable {U : Nat → Prop} {w0 : World} {σ0 : Pl} {K : Nat → Bool} {N : Nat}
theorem jd2{s:TS}{a:Act}{w:World}{σ:Pl}(h:fy U w0 σ0 K N s a w σ){t off n:Nat}(hK:K t=false){v:Value}(hV:VR (gr U (vw s.H) w σ) (.ownS (.o t) off n) v){ty:TypeId}{fr:Bool}{its:List TypeId}{u:Ty}{xs:List u.den}(ho:s.H[t]? =some (.arr ty (.fz fr) its u xs))(hpos:0<u.sz):
  ∃σ',fy U w0 σ0 K N ⟨sbS (bn t) s.S,(dk (bn t) s.H).set t (.arr ty (.fz fr) its u ((xs.drop off).take n))⟩ a w σ' ∧VR (gr U (vw ((dk (bn t) s.H).set t (.arr ty (.fz fr) its u ((xs.drop off).take n)))) w σ') (.own (.o t)) v∧∀T:TG,¬T.ob=t→σ' T=σ T:=by
 obtain⟨m,sz,hI,hle,hs⟩:=hV;have hI' :aj (vw s.H) (.o t)=some (m,sz):=hI;simp only[aj,az ho,Option.map_some,Option.some.injEq,Prod.mk.injEq]at hI';obtain⟨rfl,rfl⟩:=hI';have hxl:((xs.drop off).take n).length=n:=by simp;omega
 have hlt:t<(dk (bn t) s.H).length:=by rw[di];exact(List.getElem?_eq_some_iff.1 ho).1
 have hat:((dk (bn t) s.H).set t (.arr ty (.fz fr) its u ((xs.drop off).take n)))[t]? =some (.arr ty (.fz fr) its u ((xs.drop off).take n)):=List.getElem?_set_self hlt;obtain⟨pl,hpl⟩:∃pl:Option (Nat×Nat),(∀g o,pl=some (g,o)→∃o',σ (.o t)=some (g,o'))∧SlR w (fun T=>if T= .o t then pl else σ T) (.o t) u.sz 0 n v∧
   (pl=none→n=0)∧∀g o,pl=some (g,o)→∃o',σ (.o t)=some (g,o')∧o=o' +off*u.sz∧∃c cur,w.heap[g]? =some (.cells cur ty (0,0))∧cur.size=o+c*u.sz∧n≤c:=by
  rcases hs with⟨b,rfl,rfl⟩|⟨g,o,c,cur,e,hσ,rfl,hnc,hcm,hh,hsz⟩
  ·exact⟨none,(fun g o e=>by cases e), .inl ⟨b,rfl,rfl⟩,fun _=>rfl,(fun g o e=>by cases e)⟩
  ·have hσ' :σ (.o t)=some (g,o):=hσ;have hob:=h.hr.obj _ _ (az ho);rw[hσ']at hob;obtain⟨cur',c',h1,_⟩:=hob.cells (.inl hpos);have hh' :w.heap[g]? =some (.cells cur e (0,0)):=hh;have h1' :w.heap[g]? =some (.cells cur' ty (0,0)):=h1;have e1:cur=cur' ∧e=ty:=by rw[hh']at h1';simp only[Option.some.injEq,Obj.cells.injEq]at h1';exact⟨h1'.1,h1'.2.1⟩
   obtain⟨rfl,rfl⟩:=e1;have hsz' :cur.size=o+off*u.sz+c*u.sz:=by rw[hsz,Nat.add_mul];omega
   refine⟨some (g,o+off*u.sz),(fun g' o' e=>by cases e;exact⟨o,hσ'⟩), .inr ⟨g,o+off*u.sz,c,cur,e,by simp,by simp,hnc,hcm,hh,by rw[hsz'];simp⟩,(fun e=>by cases e),fun g' o' e=> ?_⟩;cases e;exact⟨o,hσ',rfl,c,cur,hh',hsz',hnc⟩
 obtain⟨hpl1,hpl2,hpl3,hpl4⟩:=hpl;let σ' :Pl:=fun T=>if T= .o t then pl else σ T
 have hrow:∀i f,vw s.H (.r t i f)=none:=fun i f=>by rw[lq ho,if_neg (by simp[Md.isOwn])]
 have hσr:∀i f,σ (.r t i f)=none:=by
  intro i f;cases hq:σ (.r t i f)with
  |none=>rfl
  |some q=>obtain⟨v0,hv0⟩:=h.hr.dom _ _ hq;rw[hrow]at hv0;cases hv0
 have hVn:∀T:TG,¬T.ob=t→vw ((dk (bn t) s.H).set t (.arr ty (.fz fr) its u ((xs.drop off).take n))) T=(vw s.H T).map (Vw.sb (bn t)):=fun T hT=>by
  rw[g9 hT];exact qtx fun i f=>rfl
 have hσn:∀T:TG,¬T.ob=t→σ' T=σ T:=fun T hT=>if_neg fun e=>hT (by rw[e];rfl)
 have hown:∀T g o,T.ob=t→σ' T=some (g,o)→(∃T0 o0,σ T0=some (g,o0))∨w.heap.size≤g:=by
  intro T g o hT hg;cases T with
  |o t' =>
   simp only[TG.ob]at hT;subst hT;simp only[σ',if_true]at hg;obtain⟨o',h1⟩:=hpl1 g o hg;exact .inl ⟨_,o',h1⟩
  |r t' i f=>
   simp only[TG.ob]at hT;subst hT;simp only[σ',reduceCtorEq,if_false]at hg;rw[hσr]at hg;cases hg
 have hm:Mv (bn t) (gr U (vw s.H) w σ) (gr U (vw ((dk (bn t) s.H).set t (.arr ty (.fz fr) its u ((xs.drop off).take n)))) w σ'):=by
  refine Mv.upd h.hr (fun t' =>t' =t) (Nat.le_refl _) hVn hσn (fun _ _ _ _ _=>rfl) (fun _ _ _=>rfl) hown (fun T q hT T' e=> ?_) (fun T T' q hT ht hq=> ?_) (fun T fr u xs q e=> ?_)
  ·cases T with
   |o t' =>simp only[bn]at e;cases hb:Nat.beq t' t<;>rw[hb]at e<;>cases e
   |r t' i f=>simp only[bn]at e;cases e
  ·cases T with
   |o t' =>
    simp only[TG.ob]at hT;subst hT;simp only[bn,Nat.beq_refl,cond_true,reduceCtorEq,false_and,or_self]at ht
   |r t' i f=>
    simp only[TG.ob]at hT;subst hT;simp only[aj,hrow]at hq;cases hq
  ·cases T with
   |o t' =>simp only[bn]at e;cases hb:Nat.beq t' t<;>rw[hb]at e<;>cases e
   |r t' i f=>simp only[bn]at e;cases e
 have hr' :fy U w0 σ0 K N ⟨sbS (bn t) s.S,(dk (bn t) s.H).set t (.arr ty (.fz fr) its u ((xs.drop off).take n))⟩ a w σ' :=by
  refine ARel.go h hm (fun t' =>i7 _ _ _) (h.hr.upd (fun t' =>t' =t) hm hVn hσn (fun _ _ _ _ _=>rfl) (fun T v0 hT hv0=> ?_) (fun T q hT hq=> ?_) hown (fun T T' g o o' h1 h2=> ?_) rfl rfl rfl (fun t' ht' e=>by subst e;rw[hK]at ht';cases ht') (fun t' g o ht' e=>by subst e;rw[hK]at ht';cases ht'))
  ·cases T with
   |r t' i f=>
    simp only[TG.ob]at hT;subst hT;rw[lq hat,if_neg (by simp[Md.isOwn])]at hv0;cases hv0
   |o t' =>
    simp only[TG.ob]at hT;subst hT;rw[az hat]at hv0;cases hv0;have e0:σ' (.o t')=pl:=if_pos rfl;cases hq:pl with
    |none=>
     rw[e0,hq];show((xs.drop off).take n).length=0;rw[hxl];exact hpl3 hq
    |some q=>
     obtain⟨g,o⟩:=q;rw[e0,hq];obtain⟨o',h1,h2,c,cur,h3,h4,h5⟩:=hpl4 g o hq;have hob:=h.hr.obj _ _ (az ho);rw[h1]at hob;obtain⟨cur',c',k1,k2,k3,k4⟩:=hob.cells (.inl hpos);have k1' :w.heap[g]? =some (.cells cur' ty (0,0)):=k1;rw[h3]at k1';simp only[Option.some.injEq,Obj.cells.injEq]at k1';obtain⟨rfl,_⟩:=k1';refine .inl ⟨.inl hpos,cur,c,h3,h4,by rw[hxl];exact h5,fun i f hi hf=> ?_⟩;have hi:i<n:=Nat.lt_of_lt_of_eq hi hxl;obtain⟨y,hy,k5,hVy⟩:=k4 (off+i) f (by simp only[];omega) hf;refine⟨y,?_,k5,?_⟩
     ·rw[←hy,h2,Nat.add_mul];congr 1;simp only[];omega
     ·simp only[nk]at hVy⊢;have e:((xs.drop off).take n).getD i u.dft=xs.getD (off+i) u.dft:=by
       simp only[List.getD_eq_getElem?_getD,List.getElem?_take,if_pos hi,List.getElem?_drop]
      rw[e];have h9:=VR.mv hm _ y hVy;rw[Ty.cells_sb]at h9;exact h9
  ·cases T with
   |r t' i f=>
    simp only[TG.ob]at hT;subst hT;simp only[σ',reduceCtorEq,if_false]at hq;rw[hσr]at hq;cases hq
   |o t' =>
    simp only[TG.ob]at hT;subst hT;exact⟨_,az hat⟩
  ·have key:∀T g o,σ' T=some (g,o)→∃o',σ T=some (g,o'):=by
    intro T g o hT;by_cases e:T= .o t
    ·subst e;simp only[σ',if_true]at hT;exact hpl1 g o hT
    ·simp only[σ',if_neg e]at hT;exact⟨o,hT⟩
   obtain⟨o1,h3⟩:=key T g o h1;obtain⟨o2,h4⟩:=key T' g o' h2;exact h.hr.inj _ _ _ _ _ h3 h4
 have hV' :VR (gr U (vw ((dk (bn t) s.H).set t (.arr ty (.fz fr) its u ((xs.drop off).take n)))) w σ') (.own (.o t)) v:=⟨n,u.sz,by simp only[gr,aj,az hat,Option.map_some,hxl],hpl2⟩;exact⟨σ',hr',hV',hσn⟩
theorem jny{s:TS}{a:Act}{w:World}{σ:Pl}(h:fy U w0 σ0 K N s a w σ){p t off n:Nat}(hp:p<N)(hK:K t=false)(hv:cw s.S p= .ownS (.o t) off n){ty:TypeId}{fr:Bool}{its:List TypeId}{u:Ty}{xs:List u.den}(ho:s.H[t]? =some (.arr ty (.fz fr) its u xs))(hpos:0<u.sz):
  ∃σ',fy U w0 σ0 K N ⟨(p, .own (.o t))::sbS (bn t) s.S,(dk (bn t) s.H).set t (.arr ty (.fz fr) its u ((xs.drop off).take n))⟩ a w σ' :=by
 obtain⟨v,hav,hV⟩:=h.slot p hp;rw[hv]at hV;obtain⟨σ',hr',hV',_⟩:=jd2 h hK hV ho hpos;refine⟨σ',hr'.defers,hr'.len,fun t' ht' => ?_,hr'.hr⟩;simp only[qdy];by_cases e:p=t'
 ·subst e;rw[if_pos rfl];exact⟨v,hav,hV'⟩
 ·rw[if_neg e];exact hr'.slot t' ht'
theorem HR.cell{H:List TOb}{w:World}{σ:Pl}(h:HR U w0 σ0 K (vw H) w σ){tb:Nat}{ty:TypeId}{sz:Nat}{cs:List TV}(ho:H[tb]? =some (.cs ty sz 1 cs)){j:Nat}(hj:j<sz){A:TV}
  (hA:∀g o cur e x,σ (.o tb)=some (g,o)→w.heap[g]? =some (.cells cur e (0,0))→cur[o+j]? =some x→VR (gr U (vw H) w σ) A x):HR U w0 σ0 K (vw (H.set tb (.cs ty sz 1 (cs.set j A)))) w σ:=by
 have hlt:tb<H.length:=(List.getElem?_eq_some_iff.1 ho).1;have hat:(H.set tb (.cs ty sz 1 (cs.set j A)))[tb]? =some (.cs ty sz 1 (cs.set j A)):=List.getElem?_set_self hlt;have hne:∀T:TG,¬T.ob=tb→vw (H.set tb (.cs ty sz 1 (cs.set j A))) T=vw H T:=fun T hT=>g9 hT
 have hro:∀i f,vw H (.r tb i f)=none:=fun i f=>by simp[vw,ho,vwR]
 have hro' :∀i f,vw (H.set tb (.cs ty sz 1 (cs.set j A))) (.r tb i f)=none:=fun i f=>by simp only[vw,hat,vwR]
 have hO:vw H (.o tb)=some ⟨ty,sz,1,fun i f=>cs.getD (i*sz+f) .any⟩:=by simp[vw,ho,vwO]
 have hO' :vw (H.set tb (.cs ty sz 1 (cs.set j A))) (.o tb)=some ⟨ty,sz,1,fun i f=>(cs.set j A).getD (i*sz+f) .any⟩:=by simp only[vw,hat,vwO]
 have hinfo:aj (vw (H.set tb (.cs ty sz 1 (cs.set j A))))=aj (vw H):=by
  funext T;by_cases e:T.ob=tb
  ·cases T with
   |o t=>simp only[TG.ob]at e;subst e;simp only[aj,hO,hO',Option.map_some]
   |r t i f=>simp only[TG.ob]at e;subst e;simp only[aj,hro,hro']
  ·simp only[aj,hne T e]
 have hgr:gr U (vw (H.set tb (.cs ty sz 1 (cs.set j A)))) w σ=gr U (vw H) w σ:=by simp only[gr,hinfo]
 refine⟨h.inj,fun T p hp=> ?_,fun T v hv=> ?_,h.own,h.os,h.tape,h.output,h.size,h.blk,h.keep,h.ksz,h.ulow⟩
 ·obtain⟨v,hv⟩:=h.dom T p hp;by_cases e:T.ob=tb
  ·cases T with
   |o t=>simp only[TG.ob]at e;subst e;exact⟨_,hO'⟩
   |r t i f=>simp only[TG.ob]at e;subst e;rw[hro]at hv;cases hv
  ·exact⟨v,by rw[hne T e];exact hv⟩
 ·rw[hgr];by_cases e:T.ob=tb
  ·cases T with
   |r t i f=>simp only[TG.ob]at e;subst e;rw[hro']at hv;cases hv
   |o t=>
    simp only[TG.ob]at e;subst e;rw[hO']at hv;cases hv;have h0:=h.obj _ _ hO;cases hs:σ (.o t)with
    |none=>rw[hs]at h0;exact h0
    |some q=>
     obtain⟨g,o⟩:=q;rw[hs]at h0;obtain⟨cur,c,k1,k2,k3,k4⟩:=h0.cells (.inr Nat.one_pos);refine .inl ⟨.inr Nat.one_pos,cur,c,k1,k2,k3,fun i f hi hf=> ?_⟩;have hi0:i=0:=by simp only at hi;omega
     subst hi0;obtain⟨x,hx,k5,hVx⟩:=k4 0 f (by simp) hf;refine⟨x,hx,k5,?_⟩;simp only[Nat.zero_mul,Nat.zero_add]at hx hVx⊢;by_cases ef:f=j
     ·subst ef;by_cases hl:f<cs.length
      ·rw[List.getD_eq_getElem?_getD,List.getElem?_set_self hl];exact hA g o cur ty x hs k1 hx
      ·rw[List.getD_eq_getElem?_getD,List.getElem?_eq_none (by simp;omega)]
       trivial
     ·rw[List.getD_eq_getElem?_getD,List.getElem?_set_ne (Ne.symm ef),←List.getD_eq_getElem?_getD];exact hVx
  ·rw[hne T e]at hv;exact h.obj T v hv
theorem jj6{kp:List Bool}(hK:∀t,cf kp t=false→K t=false){s:TS}{a:Act}{w:World}{σ:Pl}(h:fy U w0 σ0 K N s a w σ)(tb j:Nat):∃σ',fy U w0 σ0 K N (jnw kp tb j s) a w σ' :=by
 unfold jnw;split
 ·rename_i ty sz n cs hb;split
  ·rename_i t off m hv;split
   ·rename_i ty2 fr its u xs ho;cases hc:(!cf kp t&&Nat.beq n 1&&Nat.blt j sz&& !Nat.beq t tb&&Nat.blt 0 u.sz)with
    |false=>exact⟨σ,h⟩
    |true=>
     simp only[Bool.and_eq_true,Bool.not_eq_true']at hc;obtain⟨⟨⟨⟨c1,c2⟩,c3⟩,c4⟩,c5⟩:=hc;have hn:=bc c2;subst hn;have hj:=fp c3;have htb:¬tb=t:=fun e=>by subst e;rw[Nat.beq_refl]at c4;cases c4
     have hO:vw s.H (.o tb)=some ⟨ty,sz,1,fun i f=>cs.getD (i*sz+f) .any⟩:=by simp[vw,hb,vwO]
     have h0:=h.hr.obj _ _ hO;cases hs:σ (.o tb)with
     |none=>rw[hs]at h0;cases h0
     |some q=>
      obtain⟨g,o⟩:=q;rw[hs]at h0;obtain⟨cur,c,k1,k2,k3,k4⟩:=h0.cells (.inr Nat.one_pos);obtain⟨x,hx,k5,hVx⟩:=k4 0 j (by simp) hj;simp only[Nat.zero_mul,Nat.zero_add]at hx hVx;rw[hv]at hVx;obtain⟨σ',hr',hV',hσ'⟩:=jd2 h (hK t c1) hVx ho (fp c5);have hb' :((dk (bn t) s.H).set t (.arr ty2 (.fz fr) its u ((xs.drop off).take m)))[tb]? =some (.cs ty sz 1 (TV.sbL (bn t) cs)):=by
       rw[List.getElem?_set_ne (Ne.symm htb),iz,hb];rfl
      refine⟨σ',?_⟩;have hh:=HR.cell hr'.hr hb' hj (A:= .own (.o t)) (fun g' o' cur' e x' e1 e2 e3=>by
       rw[hσ' (.o tb) htb,hs]at e1;cases e1;have k1' :w.heap[g]? =some (.cells cur ty (0,0)):=k1;rw[k1']at e2;simp only[Option.some.injEq,Obj.cells.injEq]at e2;obtain⟨rfl,_⟩:=e2;rw[hx]at e3;cases e3;exact hV')
      have hgr:gr U (vw (((dk (bn t) s.H).set t (.arr ty2 (.fz fr) its u ((xs.drop off).take m))).set tb (.cs ty sz 1 ((TV.sbL (bn t) cs).set j (.own (.o t)))))) w σ' =gr U (vw ((dk (bn t) s.H).set t (.arr ty2 (.fz fr) its u ((xs.drop off).take m)))) w σ' :=by
       have hlt:tb<((dk (bn t) s.H).set t (.arr ty2 (.fz fr) its u ((xs.drop off).take m))).length:=(List.getElem?_eq_some_iff.1 hb').1;simp only[gr,Gr.mk.injEq,true_and];funext T;by_cases e:T.ob=tb
       ·cases T with
        |o t' =>simp only[TG.ob]at e;subst e;simp only[aj,vw,List.getElem?_set_self hlt,hb',vwO,Option.map_some]
        |r t' i f=>simp only[TG.ob]at e;subst e;simp only[aj,vw,List.getElem?_set_self hlt,hb',vwR]
       ·simp only[aj,g9 e]
      refine⟨hr'.defers,hr'.len,fun t' ht' => ?_,hh⟩;obtain⟨y,hy,hVy⟩:=hr'.slot t' ht';refine⟨y,hy,?_⟩;simp only[cond_true];rw[hgr];exact hVy
   ·exact⟨σ,h⟩
  ·exact⟨σ,h⟩
 ·exact⟨σ,h⟩
theorem qz6{kp:List Bool}(hK:∀t,cf kp t=false→K t=false){a:Act}{w:World}(tb:Nat):∀(l:List TV) (j:Nat) {s:TS} {σ:Pl},fy U w0 σ0 K N s a w σ→∃σ',fy U w0 σ0 K N (jd0 kp tb j l s) a w σ'
 |[],j,s,σ,h=>⟨σ,h⟩
 |v::l,j,s,σ,h=>by
  unfold jd0;cases jh3 v with
  |true=>obtain⟨σ1,h1⟩:=jj6 hK h tb j;exact qz6 hK tb l (j+1) h1
  |false=>exact qz6 hK tb l (j+1) h
theorem qk1{kp:List Bool}(hK:∀t,cf kp t=false→K t=false){a:Act}{w:World}:∀(l:List TOb) (tb:Nat) {s:TS} {σ:Pl},fy U w0 σ0 K N s a w σ→∃σ',fy U w0 σ0 K N (jd1 kp tb l s) a w σ'
 |[],tb,s,σ,h=>⟨σ,h⟩
 | .cs _ _ _ cs::l,tb,s,σ,h=>by
  obtain⟨σ1,h1⟩:=qz6 hK tb cs 0 h;exact qk1 hK l (tb+1) h1
 | .arr _ _ _ _ _::l,tb,s,σ,h=>qk1 hK l (tb+1) h
 | .mp _ _ _::l,tb,s,σ,h=>qk1 hK l (tb+1) h
 | .gone::l,tb,s,σ,h=>qk1 hK l (tb+1) h
theorem jj7{kp:List Bool}(hK:∀t,cf kp t=false→K t=false){s:TS}{a:Act}{w:World}{σ:Pl}(h:fy U w0 σ0 K N s a w σ)(p:Nat):∃σ',fy U w0 σ0 K N (jnx N kp p s) a w σ' :=by
 unfold jnx;split
 ·rename_i t off n hv;split
  ·rename_i ty fr its u xs ho;cases hb:(!cf kp t&&Nat.blt p N&&Nat.blt 0 u.sz)with
   |false=>exact⟨σ,h⟩
   |true=>
    simp only[Bool.and_eq_true,Bool.not_eq_true']at hb;exact jny h (fp hb.1.2) (hK t hb.1.1) hv ho (fp hb.2)
  ·exact⟨σ,h⟩
 ·exact⟨σ,h⟩
theorem x8{kp:List Bool}(hK:∀t,cf kp t=false→K t=false){a:Act}{w:World}:∀(l:List (Nat×Sh)) {s:TS} {σ:Pl},fy U w0 σ0 K N s a w σ→∃σ',fy U w0 σ0 K N (jhj N kp l s) a w σ'
 |[],s,σ,h=>⟨σ,h⟩
 |(p, .own i)::l,s,σ,h=>by
  obtain⟨σ1,h1⟩:=jj7 hK h p;exact x8 hK l h1
 |(p, .d _ _)::l,s,σ,h=>x8 hK l h
 |(p, .rp _ _)::l,s,σ,h=>x8 hK l h
 |(p, .kid _ _)::l,s,σ,h=>x8 hK l h
 |(p, .ptr _)::l,s,σ,h=>x8 hK l h
 |(p, .mp _)::l,s,σ,h=>x8 hK l h
 |(p, .e)::l,s,σ,h=>x8 hK l h
 |(p, .fn _ _)::l,s,σ,h=>x8 hK l h
 |(p, .agg _)::l,s,σ,h=>x8 hK l h
 |(p, .nl _ _)::l,s,σ,h=>x8 hK l h
theorem Shp.dec_ok{kp:List Bool}(hK:∀t,cf kp t=false→K t=false){h:Shp}{s:TS}{x:h.den}(hd:h.dec N kp s=some x){a:Act}{w:World}{σ:Pl}(hr:fy U w0 σ0 K N s a w σ):∃σ',fy U w0 σ0 K N (h.enc x) a w σ' :=by
 unfold Shp.dec at hd;obtain⟨hkp,hd⟩:=ak hd;obtain⟨σ00,hr0⟩:=x8 hK h.sl hr;obtain⟨σ1,hr1⟩:∃σ1,fy U w0 σ0 K N (jfl N kp h s) a w σ1:=by
  unfold jfl;cases jhv h.hp with
  |true=>exact qk1 hK s.H 0 hr0
  |false=>exact⟨σ00,hr0⟩
 generalize hs1:jfl N kp h s=s1 at*;generalize h.rho kp s1=ρ at*;unfold Shp.decR at hd;obtain⟨hok,hd⟩:=ak hd;split at hd
 ·rename_i xs hxs;split at hd
  ·rename_i y hy;cases hd;obtain⟨hcv,hHR⟩:=js0 hK hr1.hr hok hkp hy;refine⟨p9 ρ σ1,hr1.defers,hr1.len,fun t ht=> ?_,hHR⟩;obtain⟨v,hv,hV⟩:=hr1.slot t ht;refine⟨v,hv,?_⟩;rcases jbh h.sl xs hxs t with e|⟨sh,xi,e1,e2⟩
   ·show VR _ (cw (qkf h.sl xs) t) v;rw[e]
    trivial
   ·show VR _ (cw (qkf h.sl xs) t) v;rw[e2];exact Sh.dec_ok hcv sh _ xi e1 v hV
  ·cases hd
 ·cases hd
end
end Go.K
namespace Go.K
open Go.M Go.RowKit
section
variable {P : Program} {Rf : Type}
def ar(Rf:Type)(N:Nat)(kp:List Bool)(shI:Shp){C S:Type}(un:shI.den→C×S)(shE:Shp){CE E:Type}(mkE:CE→E→shE.den)(pE:C→CE)
  (stepK:{R:Type}→C→S→(S→Option R)→(E→Option R)→(Rf→Option R)→Option R):Summ Rf where
 A:=C×S
 O:=E⊕Rf
 dec:=fun s=>match shI.dec N kp s with|some x=>some (un x)|none=>none
 m:=fun x=>bp (fun a=>stepK x.1 a (fun a' =>some (.next a')) (fun e=>some (.done e)) (fun r=>some (.ret r))) x.2
 cont:=fun x o kn _ kr=>lk o (fun e=>kn (shE.enc (mkE (pE x.1) e))) kr
variable {U : Nat → Prop} {w0 : World} {σ0 : Pl} {K : Nat → Bool} {N : Nat}
theorem jkq{X:Ctx Rf}(hX:CtxOK P X)(hmix:P.follows .mixedOrders=true){n id:Nat}{body:Code}{ann:Ann}(hs:∀p∈v6 body ann,ax P X p.1 p.2)
  {shI shE:Shp} {C S CE E:Type} {un:shI.den→C×S} {mk:C→S→shI.den} {unE:shE.den→CE×E} {mkE:CE→E→shE.den} {pE:C→CE}
  {stepK:{R:Type}→C→S→(S→Option R)→(E→Option R)→(Rf→Option R)→Option R}
  (hΛ:X.Λ n=some (ar Rf X.N X.kp shI un shE mkE pE stepK)) (hmk:∀x,mk (un x).1 (un x).2=x) (hmkE:∀y,mkE (unE y).1 (unE y).2=y)
  (hpar:∀(R:Type) (K:C→S→Option R) (D:CE→E→Option R) (T:Rf→Option R) (c:C) (a:S),
   den X body ann (shI.enc (mk c a)) (fun s' =>match shI.dec X.N X.kp s' with|some x=>K (un x).1 (un x).2|none=>none)
    (fun id' s' =>bif Nat.beq id' id then(match shE.dec X.N X.kp s' with|some y=>D (unE y).1 (unE y).2|none=>none)else none) T=stepK c a (K c) (D (pE c)) T):
  ax P X n (.block id (.loop body)):=by
 intro σ hσ;rw[hΛ]at hσ;cases hσ;intro U w0 σ0 K hK R s x o kn ke kr r hdec hm hcont;obtain⟨c,a0⟩:=x;simp only[ar]at hdec hm hcont;cases hx:shI.dec X.N X.kp s with
 |none=>rw[hx]at hdec;cases hdec
 |some x=>
  rw[hx]at hdec;simp only[Option.some.injEq]at hdec;have hxe:x=mk c a0:=by
   have e:=hmk x;rw[hdec]at e;exact e.symm
  intro av w σ hr;obtain⟨σ1,hr1⟩:=Shp.dec_ok hK hx hr;rw[hxe]at hr1;have hround:∀p:Nat×S,q0m (fun a=>stepK c a (fun a' =>some (.next a')) (fun e=>some (.done e)) (fun r=>some (.ret r))) p.1 p.2=some o→∀a w σ,fy U w0 σ0 K X.N (shI.enc (mk c p.2)) a w σ→
    body.wp P (fun e a' w' =>match e with
     | .normal=>∃(j:Nat×S) (σ' :Pl),q0m (fun a=>stepK c a (fun a' =>some (.next a')) (fun e=>some (.done e)) (fun r=>some (.ret r))) j.1 j.2=some o∧j.1<p.1∧fy U w0 σ0 K X.N (shI.enc (mk c j.2)) a' w' σ'
     |e=>∃s' σ',fy U w0 σ0 K X.N s' a' w' σ' ∧(match e with| .exit id' =>id' =id∧kn s' =some r| .ret=>∃x,X.res s' =some x∧kr x=some r|_=>False)) a w:=by
   rintro⟨k,a⟩ hp aa ww σσ hrel;cases k with
   |zero=>cases hp
   |succ k=>
    simp only[qar]at hp;obtain⟨xv,hstep,hlr⟩:=qq2 hp
    classical
    let K1:C→S→Option (LR S E Rf):=fun c' a' =>if c' =c then some (.next a')else none
    let D1:CE→E→Option (LR S E Rf):=fun c' e=>if c' =pE c then some (.done e)else none
    have hden:=hpar (LR S E Rf) K1 D1 (fun r=>some (.ret r)) c a;have e1:K1 c=fun a' =>some (.next a'):=by funext a';simp[K1]
    have e2:D1 (pE c)=fun e=>some (.done e):=by funext e;simp[D1]
    rw[e1,e2]at hden;rw[hstep]at hden;refine Code.wp_mono ?_ (jcc hX hmix hK body ann _ _ _ _ hs hden aa ww σσ hrel);rintro e a' w' ⟨s',σ',h1,hpost⟩;cases e with
    |normal=>
     have hk:(match shI.dec X.N X.kp s' with|some x=>K1 (un x).1 (un x).2|none=>none)=some xv:=hpost;cases hx' :shI.dec X.N X.kp s' with
     |none=>rw[hx']at hk;cases hk
     |some x' =>
      rw[hx']at hk;simp only[K1]at hk;split at hk
      ·rename_i hc;cases hk;obtain⟨σ2,hr2⟩:=Shp.dec_ok hK hx' h1;refine⟨(k,(un x').2),σ2,hlr,Nat.lt_succ_self k,?_⟩;have e:=hmk x';rw[hc]at e;rw[e];exact hr2
      ·cases hk
    |exit id' =>
     have hk1:(bif Nat.beq id' id then(match shE.dec X.N X.kp s' with|some y=>D1 (unE y).1 (unE y).2|none=>none)else none)=some xv:=hpost;have hid:=(ak hk1).1;have hk:=(ak hk1).2;have hid' :=bc hid;cases hx' :shE.dec X.N X.kp s' with
     |none=>rw[hx']at hk;cases hk
     |some y=>
      rw[hx']at hk;simp only[D1]at hk;split at hk
      ·rename_i hc;cases hk;cases hlr;obtain⟨σ2,hr2⟩:=Shp.dec_ok hK hx' h1;refine⟨shE.enc (mkE (pE c) (unE y).2),σ2,?_,hid',hcont⟩;have e:=hmkE y;rw[hc]at e;rw[e];exact hr2
      ·cases hk
    |ret=>
     obtain⟨x',hres,hk⟩:=hpost;cases hk;cases hlr;exact⟨s',σ',h1,x',hres,hcont⟩
    |_=>exact hpost.elim
  have hloop:=CW.loop (P:=P) (Q:=fun e s' =>match e with| .exit id' =>id' =id∧kn s' =some r| .ret=>∃x,X.res s' =some x∧kr x=some r|_=>False) (fun p:Nat×S=>shI.enc (mk c p.2)) (fun p=>q0m (fun a=>stepK c a (fun a' =>some (.next a')) (fun e=>some (.done e)) (fun r=>some (.ret r))) p.1 p.2=some o) (fun p=>p.1) hround (many,a0) hm;refine wp_block (Code.wp_mono ?_ (hloop av w σ1 hr1));rintro e a' w' ⟨s',σ',h1,h2⟩;cases e with
  |normal=>exact h2.elim
  |exit id' =>
   obtain⟨rfl,hk⟩:=h2;simp only[Exit.inBlock,if_true];exact⟨s',σ',h1,hk⟩
  |ret=>exact⟨s',σ',h1,h2⟩
  |_=>exact h2.elim
def u4(Rf:Type)(N:Nat)(kp:List Bool)(shI:Shp){A:Type}(un:shI.den→A)(shE:Shp){CE E:Type}(mkE:CE→E→shE.den)(pE:A→CE)
  (stepK:{R:Type}→A→(E→Option R)→(Rf→Option R)→Option R):Summ Rf where
 A:=A
 O:=E⊕Rf
 dec:=fun s=>match shI.dec N kp s with|some x=>some (un x)|none=>none
 m:=fun x=>stepK x (fun e=>some (.inl e)) (fun r=>some (.inr r))
 cont:=fun x o kn _ kr=>lk o (fun e=>kn (shE.enc (mkE (pE x) e))) kr
theorem jkj{X:Ctx Rf}(hX:CtxOK P X)(hmix:P.follows .mixedOrders=true){n:Nat}{c:Code}{ann:Ann}(hs:∀p∈v6 c ann,ax P X p.1 p.2)
  {shI shE:Shp} {A CE E:Type} {un:shI.den→A} {mk:A→shI.den} {unE:shE.den→CE×E} {mkE:CE→E→shE.den} {pE:A→CE}
  {stepK:{R:Type}→A→(E→Option R)→(Rf→Option R)→Option R}
  (hΛ:X.Λ n=some (u4 Rf X.N X.kp shI un shE mkE pE stepK)) (hmk:∀x,mk (un x)=x) (hmkE:∀y,mkE (unE y).1 (unE y).2=y)
  (hpar:∀(R:Type) (D:CE→E→Option R) (T:Rf→Option R) (a:A),
   den X c ann (shI.enc (mk a)) (fun s' =>match shE.dec X.N X.kp s' with|some y=>D (unE y).1 (unE y).2|none=>none) (fun _ _=>none) T=stepK a (D (pE a)) T):
  ax P X n c:=by
 intro σ hσ;rw[hΛ]at hσ;cases hσ;intro U w0 σ0 K hK R s (a:A) o kn ke kr r hdec hm hcont;simp only[u4]at hdec hm hcont;cases hx:shI.dec X.N X.kp s with
 |none=>rw[hx]at hdec;cases hdec
 |some x=>
  rw[hx]at hdec;simp only[Option.some.injEq]at hdec;intro av w σ hr;obtain⟨σ1,hr1⟩:=Shp.dec_ok hK hx hr;have hxe:x=mk a:=by
   have e:=hmk x;rw[hdec]at e;exact e.symm
  rw[hxe]at hr1
  classical
  let D:CE→E→Option (E⊕Rf):=fun c' e=>if c' =pE a then some (.inl e)else none
  have hden:=hpar (E⊕Rf) D (fun r=>some (.inr r)) a;have e2:D (pE a)=fun e=>some (.inl e):=by funext e;simp[D]
  rw[e2,hm]at hden;refine Code.wp_mono ?_ (jcc hX hmix hK c ann _ _ _ _ hs hden av w σ1 hr1);rintro e a' w' ⟨s',σ',h1,hpost⟩;cases e with
  |normal=>
   have hk:(match shE.dec X.N X.kp s' with|some y=>D (unE y).1 (unE y).2|none=>none)=some o:=hpost;cases hx' :shE.dec X.N X.kp s' with
   |none=>rw[hx']at hk;cases hk
   |some y=>
    rw[hx']at hk;simp only[D]at hk;split at hk
    ·rename_i hc;cases hk;obtain⟨σ2,hr2⟩:=Shp.dec_ok hK hx' h1;refine⟨shE.enc (mkE (pE a) (unE y).2),σ2,?_,hcont⟩;have e:=hmkE y;rw[hc]at e;rw[e];exact hr2
    ·cases hk
  |exit id' =>cases hpost
  |ret=>
   obtain⟨x',hres,hk⟩:=hpost;cases hk;exact⟨s',σ',h1,x',hres,hcont⟩
  |_=>exact hpost.elim
end
end Go.K
namespace Go.K
open Go.M Go.RowKit
def jiv(N:Nat)(tt:TT)(s:TS):ResultVar→Option TV
 | .tmp t=>some (rd N s.S t)
 | .cell a t=>match q5p tt s.H t (rd N s.S a)with|some ([],v)=>some v|_=>none
def qxp(N:Nat)(tt:TT)(s:TS):List ResultVar→Option (List TV)
 |[]=>some []
 |r::rs=>
  match jiv N tt s r with
  |some v=>match qxp N tt s rs with|some l=>some (v::l)|none=>none
  |none=>none
def qq7:Nat→List TV→List (Nat×TV)
 |_,[]=>[]
 |k,v::l=>(k,v)::qq7 (k+1) l
def jit(N:Nat)(tt:TT)(kp:List Bool)(rs:List ResultVar)(sh:Shp)(s:TS):Option sh.den:=
 match qxp N tt s rs with
 |some vs=>sh.dec vs.length kp ⟨qq7 0 vs,s.H⟩
 |none=>none
def ce(N:Nat)(tt:TT)(kp:List Bool)(rs:List ResultVar)(sh:Shp){B:Type}(un:sh.den→B)(s:TS):Option B:=
 match jit N tt kp rs sh s with
 |some b=>some (un b)
 |none=>none
def jft(S:List (Nat×TV)):Nat→Nat→List TV
 |_,0=>[]
 |j,k+1=>cw S j::jft S (j+1) k
def jc5(k:Nat)(S:List (Nat×TV)):TV:=
 match jft S 0 k with
 |[v]=>v
 |l=> .tup l
def jjv(l:ShL)(objs:List Hs)(args:List TV)(H:List TOb):Rho:=jd6 H 0 objs (l.fnd args (List.replicate objs.length none))
def jlb:Rho→Option (List Nat)
 |[]=>some []
 |some t::l=>match jlb l with|some r=>some (t::r)|none=>none
 |none::_=>none
def ay(l:ShL)(objs:List Hs)(kp:List Bool)(k:Nat)(sh:Shp){B:Type}(mk:B→sh.den)(m:l.den×yb objs→Option B):Mdl where
 A:=l.den×yb objs
 B:=B
 dec:=fun args H=>
  match jlb (jjv l objs args H)with
  |some ρ=>
   bif qmz (ρ.map some)then
    match l.dec true (ρ.map some) H args with
    |some x=>match qi6 true (ρ.map some) H (ρ.map some) objs with|some y=>some ((x,y),ρ,[])|none=>none
    |none=>none
   else none
  |none=>none
 args:=fun a=>l.enc a.1
 objs:=fun a=>f8 objs a.2
 m:=m
 res:=fun _ b=>jc5 k (qkf sh.sl (mk b).1)
 outs:=fun _ b=>f8 sh.hp (mk b).2
 kp:=kp
mutual
def Sh.frB:Sh→Bool
 | .d fr t=>fr||t.flat
 | .rp fr _=>fr
 | .own _=>true
 | .kid _ _=>true
 | .ptr _=>true
 | .mp _=>true
 | .e=>true
 | .fn _ l=>l.frB
 | .agg l=>l.frB
 | .nl _ s=>s.frB
def ShL.frB:ShL→Bool
 | .nil=>true
 | .cons s l=>s.frB&&l.frB
end
def Hs.frB:Hs→Bool
 | .arr _ (.fz fr) _ t=>fr||t.flat
 | .arr _ _ _ _=>true
 | .cs _ _ _ l=>l.frB
 | .mp _ _=>true
def jet:List (Nat×Sh)→Bool
 |[]=>true
 |p::l=>p.2.frB&&jet l
def jd7:List Hs→Bool
 |[]=>true
 |p::l=>p.frB&&jd7 l
def Shp.frB(h:Shp):Bool:=jet h.sl&&jd7 h.hp
theorem qub:∀{l:List TV},(∀A∈l,A.fresh=true)→TV.freshL l=true
 |[],_=>rfl
 |A::l,h=>by simp only[TV.freshL,h A List.mem_cons_self,qub fun B hB=>h B (List.mem_cons_of_mem _ hB),Bool.and_self]
theorem jdl{fr:Bool}:∀{t:Ty} (x:t.den),(fr||t.flat)=true→(jdk fr t x).fresh=true
 | .int _,_,_=>rfl
 | .bool,_,_=>rfl
 | .str,_,_=>rfl
 | .slice t,xs,h=>by simpa[jdk,TV.fresh,Ty.flat]using h
 | .struct l,x,h=>by
  simp only[jdk,TV.fresh];refine qub fun A hA=> ?_
  cases fr with
  |true=>exact q0d (TyL.cells_form true l x A hA)
  |false=>exact TyL.flat_cells false l x (by simpa[Ty.flat]using h) A hA
mutual
theorem Sh.enc_fresh:∀(s:Sh) (x:s.den),s.frB=true→(s.enc x).fresh=true
 | .d fr t,x,h=>jdl x h
 | .rp fr t,x,h=>h
 | .own _,_,_=>rfl
 | .kid _ _,_,_=>rfl
 | .ptr _,_,_=>rfl
 | .mp _,_,_=>rfl
 | .e,_,_=>rfl
 | .fn f l,x,h=>ShL.enc_fresh l x h
 | .agg l,x,h=>ShL.enc_fresh l x h
 | .nl _ s,x,h=>Sh.enc_fresh s x h
theorem ShL.enc_fresh:∀(l:ShL) (x:l.den),l.frB=true→TV.freshL (l.enc x)=true
 | .nil,_,_=>rfl
 | .cons s l,x,h=>by
  simp only[ShL.frB,Bool.and_eq_true]at h;simp only[ShL.enc,TV.freshL,Sh.enc_fresh s x.1 h.1,ShL.enc_fresh l x.2 h.2,Bool.and_self]
end
theorem Hs.enc_fresh:∀(h:Hs) (x:h.den),h.frB=true→(h.enc x).fresh=true
 | .arr _ (.fz _) _ _,_,h=>h
 | .arr _ .own _ _,_,_=>rfl
 | .arr _ (.hole _ _) _ _,_,_=>rfl
 | .arr _ (.swap _ _) _ _,_,_=>rfl
 | .cs _ _ _ l,x,h=>ShL.enc_fresh l x h
 | .mp _ _,_,_=>rfl
theorem qwt:∀(l:List Hs) (x:yb l),jd7 l=true→qia (f8 l x)=true
 |[],_,_=>rfl
 |p::l,x,h=>by
  simp only[jd7,Bool.and_eq_true]at h;simp only[f8,qia,Hs.enc_fresh p x.1 h.1,qwt l x.2 h.2,Bool.and_self]
theorem qxr:∀(l:List (Nat×Sh)) (x:q6d l),jet l=true→∀t,(cw (qkf l x) t).fresh=true
 |[],_,_,t=>rfl
 |p::l,x,h,t=>by
  simp only[jet,Bool.and_eq_true]at h;simp only[qkf,qdy];split
  ·exact Sh.enc_fresh p.2 x.1 h.1
  ·exact qxr l x.2 h.2 t
theorem jc6{S:List (Nat×TV)}(h:∀t,(cw S t).fresh=true)(k:Nat):(jc5 k S).fresh=true:=by
 have:∀k j,∀A∈jft S j k,A.fresh=true:=by
  intro k
  induction k with
  |zero=>intro j A hA;simp[jft]at hA
  |succ k ih=>
   intro j A hA;rcases List.mem_cons.1 hA with rfl|hA
   ·exact h j
   ·exact ih _ A hA
 have h1:=this k 0;unfold jc5;split
 ·rename_i v e;exact h1 v (by rw[e];exact List.mem_cons_self)
 ·exact qub h1
end Go.K
namespace Go.K
open Go.M Go.RowKit
section
variable {U : Nat → Prop} {w0 : World} {σ0 : Pl} {K : Nat → Bool} {N : Nat} {P : Program} {tt : TT}
def jkw(tmps:Array Value):ResultVar→Sem Value
 | .tmp t=>pure (tmps.getD t undef)
 | .cell ad t=>do loadVar t (←asAddr (tmps.getD ad undef))
theorem jfd{H:List TOb}{t:TypeId}{A:TV}{r:List Bool×TV}(h:q5p tt H t A=some r){G:Gr}{v:Value}(hv:VR G A v):∃ad,v= .pointer (some ad):=by
 unfold q5p at h;split at h
 ·cases h
 ·split at h
  ·obtain⟨g,o,n,sz,_,_,rfl⟩:=hv;exact⟨_,rfl⟩
  ·obtain⟨g,o,n,sz,_,_,rfl⟩:=hv;exact⟨_,rfl⟩
  ·obtain⟨b,o,rfl,_⟩:=hv;exact⟨_,rfl⟩
  ·cases h
theorem jbe(hF:ew P tt){s:TS}{a:Act}{w:World}{σ:Pl}(h:fy U w0 σ0 K N s a w σ):∀(rs:List ResultVar) (l:List TV),qxp N tt s rs=some l→
  ∃vs:List Value,(rs.mapM (jkw a.tmps)).run P w= .ok vs w∧jr (gr U (vw s.H) w σ) l vs
 |[],l,hl=>by
  simp only[qxp,Option.some.injEq]at hl;subst hl;exact⟨[],by simp,rfl⟩
 |r::rs,l,hl=>by
  unfold qxp at hl;split at hl
  ·rename_i v hv;split at hl
   ·rename_i m hm;cases hl;obtain⟨vs,hrun,hvs⟩:=jbe hF h rs m hm;cases r with
    |tmp t=>
     simp only[jiv,Option.some.injEq]at hv;subst hv;refine⟨a.tmps.getD t undef::vs,by simp only[List.mapM_cons,jkw,Sem.run_bind,Sem.run_pure,Result.andThen_ok,hrun],_,vs,rfl,h.ev (.tmp t),hvs⟩
    |cell ad t=>
     simp only[jiv]at hv;split at hv
     ·rename_i v0 hload;cases hv;have hev:VR (gr U (vw s.H) w σ) (rd N s.S ad) (a.tmps.getD ad undef):=h.ev (.tmp ad);obtain⟨adr,hadr⟩:=jfd hload hev;obtain⟨u,hu,hV⟩:=qwy (P:=P) hF h.hr.sees hev hload ji.nil;rw[hadr]at hu;simp only[Instr.loadAt,Instr.sureAddr,pure_bind]at hu;have hu' :(loadVar t adr).run P w= .ok u w:=hu;refine⟨u::vs,?_,u,vs,rfl,hV,hvs⟩;simp only[List.mapM_cons,jkw,hadr,asAddr,pure_bind,Sem.run_bind,hu',Result.andThen_ok,hrun,Sem.run_pure]
     ·cases hv
   ·cases hl
  ·cases hl
theorem quc:∀(l:List TV) (k t:Nat),cw (qq7 k l) t=if k≤t then l.getD (t-k) .any else .any
 |[],k,t=>by simp[qq7,cw]
 |v::l,k,t=>by
  simp only[qq7,qdy,quc l (k+1) t];by_cases h:k=t
  ·subst h;simp
  ·rw[if_neg h];by_cases h1:k≤t
   ·rw[if_pos (by omega),if_pos h1,show t-k=(t-(k+1))+1 by omega];simp
   ·rw[if_neg (by omega),if_neg h1]
theorem q95{G:Gr}{S:List (Nat×TV)}:∀(vs:List Value) (j:Nat),(∀i v,vs[i]? =some v→VR G (cw S (j+i)) v)→jr G (jft S j vs.length) vs
 |[],j,_=>rfl
 |v::vs,j,h=>⟨v,vs,rfl,by simpa using h 0 v rfl,q95 vs (j+1) fun i u hi=>by rw[show j+1+i=j+(i+1) by omega];exact h (i+1) u (by simpa using hi)⟩
theorem jkx{G:Gr}{S:List (Nat×TV)}{vs:List Value}(h:jr G (jft S 0 vs.length) vs):VR G (jc5 vs.length S) (if h:vs.toArray.size=1 then vs.toArray[0]else .tuple vs.toArray):=by
 unfold jc5
 match vs,h with
 |[],h=>exact⟨[],by simp,h⟩
 |[v],h=>
  obtain⟨u,r,e,h1,h2⟩:=h;simp only[List.cons.injEq]at e;obtain⟨rfl,_⟩:=e;rw[dif_pos (by simp)];exact h1
 |v::v2::vs,h=>
  rw[dif_neg (by simp)];exact⟨_,rfl,h⟩
theorem jiu(hF:ew P tt){fn:Func}{rs:List ResultVar}(hrs:fn.results=rs.toArray){kp:List Bool}(hK:∀t,cf kp t=false→K t=false){sh:Shp}{s:TS}{b:sh.den}(hb:jit N tt kp rs sh s=some b){a:Act}{w:World}{σ:Pl}(h:fy U w0 σ0 K N s a w σ):
  ∃v σ',(results fn a.tmps).run P w= .ok v w∧HR U w0 σ0 K (vw (f8 sh.hp b.2)) w σ' ∧VR (gr U (vw (f8 sh.hp b.2)) w σ') (jc5 rs.length (qkf sh.sl b.1)) v:=by
 unfold jit at hb;split at hb
 ·rename_i l hl;obtain⟨vs,hrun,hvs⟩:=jbe (P:=P) hF h rs l hl;have hres:(results fn a.tmps).run P w= .ok (if h:vs.toArray.size=1 then vs.toArray[0]else .tuple vs.toArray) w:=by
   have e1:results fn a.tmps=(do let vs←fn.results.mapM (jkw a.tmps);pure (if h:vs.size=1 then vs[0]else .tuple vs)):=by
    unfold results;congr 1
   rw[e1,hrs];simp only[List.mapM_toArray,Sem.run_bind,Sem.run_map,hrun,Result.andThen_ok,Sem.run_pure]
  have hlen:∀(rs:List ResultVar) (l:List TV),qxp N tt s rs=some l→l.length=rs.length:=by
   intro rs
   induction rs with
   |nil=>intro l hl;simp only[qxp,Option.some.injEq]at hl;subst hl;rfl
   |cons r rs ih=>
    intro l hl;unfold qxp at hl;split at hl
    ·split at hl
     ·rename_i m hm;cases hl;simp[ih m hm]
     ·cases hl
    ·cases hl
  have hl1:=hlen rs l hl;have hl2:=hvs.len;have hr1:fy U w0 σ0 K l.length ⟨qq7 0 l,s.H⟩ ⟨vs.toArray,[]⟩ w σ:=by
   refine⟨rfl,by simp[hl2],fun t ht=> ?_,h.hr⟩;obtain⟨u,hu,hV⟩:=hvs.getD t ht;refine⟨u,by simpa using hu,?_⟩;simp only[quc,Nat.zero_le,if_true,Nat.sub_zero];exact hV
  obtain⟨σ',hr2⟩:=Shp.dec_ok hK hb hr1;refine⟨_,σ',hres,hr2.hr,?_⟩;rw[show rs.length=vs.length by omega];refine jkx (q95 vs 0 fun i v hi=> ?_);rw[Nat.zero_add];obtain⟨v',hv',hV⟩:=hr2.slot i (by have:=(List.getElem?_eq_some_iff.1 hi).1;omega);have:v' =v:=by
   have:vs[i]? =some v' :=by simpa using hv'
   rw[hi]at this;exact(Option.some.inj this).symm
  subst this;exact hV
 ·cases hb
theorem q7m{l:ShL}{objs:List Hs}{kp:List Bool}{k:Nat}{sh:Shp}{B:Type}{mk:B→sh.den}{m:l.den×yb objs→Option B}:∀args Hv H a ρ bs,HLe (fun _=>False) Hv H→(ay l objs kp k sh mk m).dec args Hv=some (a,ρ,bs)→qz7 ρ=true→qzx Hv.length ρ=true→q0x ρ bs=true→∀(U:Nat→Prop) (w0:World) (σ0:Pl) (K:Nat→Bool) (w:World) (σ:Pl),HR U w0 σ0 K (vw H) w σ→
  HR (qd3 ρ U σ) w (ql8 ρ σ) (cf kp) (vw ((ay l objs kp k sh mk m).objs a)) w (ql8 ρ σ)∧∀vs:List Value,jr (gr U (vw H) w σ) args vs→jr (gr (qd3 ρ U σ) (vw ((ay l objs kp k sh mk m).objs a)) w (ql8 ρ σ)) ((ay l objs kp k sh mk m).args a) vs:=by
 intro args Hv H a ρ bs hle hdec _ _ _ U w0 σ0 K w σ hHR;simp only[ay]at hdec;split at hdec
 ·rename_i ρ' hρ;obtain⟨hok,hdec⟩:=ak hdec;split at hdec
  ·rename_i x hx;split at hdec
   ·rename_i y hy;cases hdec;obtain⟨hcv,hHR'⟩:=jqf (cf kp) hHR hle hok hy;refine⟨hHR',fun vs hvs=> ?_⟩;have:=ShL.dec_ok hcv l args x hx vs hvs;rw[qvq]at this;exact this
   ·cases hdec
  ·cases hdec
 ·cases hdec
theorem qui{l:ShL}{objs:List Hs}{kp:List Bool}{k:Nat}{sh:Shp}{B:Type}{mk:B→sh.den}{m:l.den×yb objs→Option B}(hfr:sh.frB=true)(a:l.den×yb objs)(b:B):TV.fresh ((ay l objs kp k sh mk m).res a b)=true∧qia ((ay l objs kp k sh mk m).outs a b)=true:=by
 have hfr' :=hfr;simp only[Shp.frB,Bool.and_eq_true]at hfr';exact⟨jc6 (qxr sh.sl (mk b).1 hfr'.1) _,qwt sh.hp (mk b).2 hfr'.2⟩
theorem jsv{f:FuncId}{fn:Func}{c:Code}(hf:P.funcs[f]? =some fn)(hname:(fn.name== "runtime.NumGoroutine")=false)(hb:fn.body=some c){B:Type}{X:Ctx B}(hN:fn.ntmps=X.N){rs:List ResultVar}
  (hrs:fn.results=rs.toArray) {l:ShL} {objs:List Hs} {sh:Shp} {un:sh.den→B} {mk:B→sh.den} (hmk:∀x,mk (un x)=x) (hres:X.res=ce X.N X.tt X.kp rs sh un) (hX:CtxOK P X) (hmix:P.follows .mixedOrders=true) {ann:Ann} (hs:∀p∈v6 c ann,ax P X p.1 p.2) (hl:l.len≤X.N) (hfr:sh.frB=true)
  {m:l.den×yb objs→Option B} (hden:∀a,den X c ann ⟨qq7 0 (l.enc a.1),f8 objs a.2⟩ X.res (fun _ _=>none) some=m a):MdlOK P f (ay l objs X.kp rs.length sh mk m):=by
 refine⟨⟨fn,hf,hname,by rw[hb];rfl⟩,fun a b hm U w σ hHR vs hvs=> ?_,q7m,fun a b _=>qui hfr a b⟩;have hm' :m a=some b:=hm;have hvl:vs.length=l.len:=by rw[hvs.len];exact ShL.enc_len l a.1
 have hr0:fy U w σ (cf X.kp) X.N ⟨qq7 0 (l.enc a.1),f8 objs a.2⟩ {tmps:=vs.toArray++Array.replicate (fn.ntmps-vs.toArray.size) undef,defers:=[]} w σ:=by
  refine⟨rfl,by simp[hN];omega,fun t ht=> ?_,hHR⟩;simp only[quc,Nat.zero_le,if_true,Nat.sub_zero];rcases Nat.lt_or_ge t vs.length with h1|h1
  ·obtain⟨u,hu,hV⟩:=jr.getD hvs t (by show t<(l.enc a.1).length;rw[ShL.enc_len];omega);exact⟨u,by rw[Array.getElem?_append_left (by simpa using h1)];simpa using hu,hV⟩
  ·refine⟨undef,?_,?_⟩
   ·rw[Array.getElem?_append_right (by simpa using h1)];simp[hN];rw[Array.getElem?_replicate,if_pos (by omega)]
   ·rw[List.getD_eq_getElem?_getD,List.getElem?_eq_none (by rw[ShL.enc_len];omega)]
    trivial
 have hd:=hden a;rw[hm']at hd;refine calls_of_wp hf hb (Code.wp_mono ?_ (jcc (K:=cf X.kp) hX hmix (fun t h=>h) c ann _ _ _ _ hs hd _ w σ hr0));have done:∀s' a' w' σ',fy U w σ (cf X.kp) X.N s' a' w' σ' →X.res s' =some b→a'.defers=[]∧∃v,(results fn a'.tmps).run P w' = .ok v w' ∧∃v2 σ',Ending.returned v= .returned v2∧HR U w σ (cf X.kp) (vw (f8 sh.hp (mk b).2)) w' σ' ∧VR (gr U (vw (f8 sh.hp (mk b).2)) w' σ') (jc5 rs.length (qkf sh.sl (mk b).1)) v2:=by
  intro s' a' w' σ' h1 h2;rw[hres]at h2;unfold ce at h2;split at h2
  ·rename_i b0 hb0;cases h2;rw[hmk];obtain⟨v,σ2,e1,e2,e3⟩:=jiu hX.fits hrs (fun t h=>h) hb0 h1;exact⟨h1.defers,v,e1,v,σ2,rfl,e2,e3⟩
  ·cases h2
 rintro e a' w' ⟨s',σ',h1,hpost⟩;cases e with
 |normal=>exact done s' a' w' σ' h1 hpost
 |ret=>
  obtain⟨x,hx,hk⟩:=hpost;cases hk;exact done s' a' w' σ' h1 hx
 |exit id=>cases hpost
 |_=>exact hpost.elim
theorem jf6{f:FuncId}{s:Sh}{l:ShL}{objs:List Hs}{kp:List Bool}{k:Nat}{sh:Shp}{B:Type}{mk:B→sh.den}{m m0 m1:(ShL.cons s l).den×yb objs→Option B}(hs:∀(G:Gr) (x:s.den) (v:Value),VR G (s.enc x) v→∃a n c,v= .slice a n c)
  (h0:MdlOK P f (ay (.cons (.nl false s) l) objs kp k sh mk m0)) (h1:MdlOK P f (ay (.cons (.nl true s) l) objs kp k sh mk m1)) (hfr:sh.frB=true) (hm:∀a b,m a=some b→m0 a=some b∧m1 a=some b):MdlOK P f (ay (.cons s l) objs kp k sh mk m):=by
 refine⟨h0.fn,fun a b hb U w σ hHR vs hvs=> ?_,q7m,fun a b _=>qui hfr a b⟩;obtain⟨hb0,hb1⟩:=hm a b hb;obtain⟨u,r,rfl,h2,h3⟩:=(show jr _ (s.enc a.1.1::l.enc a.1.2) vs from hvs);obtain⟨ad,n,c,rfl⟩:=hs _ _ _ h2;cases ad with
 |none=>exact h0.run a b hb0 U w σ hHR _ ⟨_,r,rfl,⟨h2,fun a' c' e=>by cases e;rfl⟩,h3⟩
 |some q=>exact h1.run a b hb1 U w σ hHR _ ⟨_,r,rfl,⟨h2,fun n' c' e=>by cases e⟩,h3⟩
theorem jk2(fr:Bool)(t:Ty):∀(G:Gr) (x:(Sh.d fr (.slice t)).den) (v:Value),VR G ((Sh.d fr (.slice t)).enc x) v→∃a n c,v= .slice a n c:=by
 intro G x v h;obtain⟨a,c,h,_⟩:=h;exact⟨_,_,_,h⟩
def ia:List (FuncId×Mdl)→FuncId→List Mdl
 |[],_=>[]
 |p::l,f=>bif Nat.beq p.1 f then p.2::ia l f else ia l f
theorem jpq{l:List (FuncId×Mdl)}(h:∀p∈l,MdlOK P p.1 p.2):∀f M,M∈ia l f→MdlOK P f M:=by
 intro f M hM
 induction l with
 |nil=>simp[ia]at hM
 |cons p l ih=>
  unfold ia at hM;cases hb:Nat.beq p.1 f with
  |false=>rw[hb]at hM;exact ih (fun q hq=>h q (List.mem_cons_of_mem _ hq)) hM
  |true=>
   rw[hb]at hM;rcases List.mem_cons.1 hM with rfl|hM
   ·rw[←bc hb];exact h p (List.mem_cons_self ..)
   ·exact ih (fun q hq=>h q (List.mem_cons_of_mem _ hq)) hM
def qv(P:Program):List (FuncId×Mdl)→Prop
 |[]=>True
 |p::l=>MdlOK P p.1 p.2∧qv P l
theorem qv.all{P:Program}:∀{l:List (FuncId×Mdl)},qv P l→∀p∈l,MdlOK P p.1 p.2
 |[],_,p,hp=>by simp at hp
 |q::l,h,p,hp=>by
  rcases List.mem_cons.1 hp with rfl|hp
  ·exact h.1
  ·exact qv.all h.2 p hp
def qxy(P:Program){Rf:Type}(X:Ctx Rf):List (Nat×Code)→Prop
 |[]=>True
 |p::l=>ax P X p.1 p.2∧qxy P X l
theorem qxy.all{P:Program}{Rf:Type}{X:Ctx Rf}{c:Code}{ann:Ann}{l:List (Nat×Code)}(h:v6 c ann=l)(hl:qxy P X l):∀p∈v6 c ann,ax P X p.1 p.2:=by
 rw[h];clear h
 induction l with
 |nil=>intro p hp;simp at hp
 |cons q l ih=>
  intro p hp;rcases List.mem_cons.1 hp with rfl|hp
  ·exact hl.1
  ·exact ih hl.2 p hp
def io{Rf:Type}:List (Summ Rf)→Nat→Option (Summ Rf)
 |[],_=>none
 |σ::_,0=>some σ
 |_::l,n+1=>io l n
end
end Go.K
namespace Go.K
open Go.M Go.RowKit Go.ChangeShapes Go.WideShapes Go.Deep
mutual
def Ty.good:(t:Ty)→t.den→Prop
 | .int k,n=> @LE.le Int _ k.min n∧ @LE.le Int _ n k.max
 | .bool,_=>True
 | .str,s=>ByteArray.size s≤maxLen
 | .slice t,xs=>List.length (α:=t.den) xs≤maxLen∧∀x:t.den,@Membership.mem t.den (List t.den) _ xs x→t.good x
 | .struct l,x=>l.good x
def TyL.good:(l:TyL)→l.den→Prop
 | .nil,_=>True
 | .cons t l,x=>t.good x.1∧l.good x.2
end
def jk5(tt:TT)(t:TypeId)(n:Nat):Bool:=match tt t with|some x=>Nat.beq x.sz n|none=>false
def jfs(tt:TT)(ok:TypeId→Ty→Bool):List (Nat×TypeId)→TyL→Nat→Bool
 |[], .nil,_=>true
 |(o,t)::fs, .cons u l,off=>Nat.beq o off&&(ok t u&&(jk5 tt t u.sz&&jfs tt ok fs l (off+u.sz)))
 |_,_,_=>false
def q45(ok:TypeId→Ty→Bool)(e:TypeId)(z:Nat):Nat→TyL→Bool
 |0, .nil=>true
 |n+1, .cons u l=>ok e u&&(Nat.beq u.sz z&&q45 ok e z n l)
 |_,_=>false
def jbk(tt:TT):Nat→TypeId→Ty→Bool
 |0,_,_=>false
 |n+1,t,u=>
  match u,tt t with
  | .int k,some ⟨.int k',_,_,_⟩=>decide (k=k')
  | .bool,some ⟨.bool,_,_,_⟩=>true
  | .str,some ⟨.str,_,_,_⟩=>true
  | .slice u,some ⟨.slice e,_,_,_⟩=>jbk tt n e u&&(jk5 tt e u.sz&&Nat.blt 0 u.sz)
  | .struct l,some ⟨.strct _ fs,sz,_,_⟩=>jfs tt (jbk tt n) fs l 0&&Nat.beq l.sz sz
  | .struct l,some ⟨.arr _ k e,sz,_,_⟩=>match tt e with|some ei=>q45 (jbk tt n) e ei.sz k l&&Nat.beq l.sz sz|none=>false
  |_,_=>false
section
variable {P : Program} {tt : TT}
theorem qh9(hF:ew P tt){t:TypeId}{x:TI}(h:tt t=some x):P.cellsOf t=x.sz:=by
 obtain⟨i,d,z,h1,h2,h3,h4,_⟩:=(hF t x h).1;simp[Program.cellsOf,h1,h4]
theorem qi(hF:ew P tt){t:TypeId}{x:TI}(h:tt t=some x):∃d,P.underlying t=some d∧TK.of d=x.k.plain:=by
 obtain⟨i,d,z,h1,h2,h3,_⟩:=(hF t x h).1;exact⟨d,h2,h3⟩
theorem jez(hF:ew P tt){t:TypeId}{n:Nat}(h:jk5 tt t n=true):P.cellsOf t=n:=by
 unfold jk5 at h;split at h
 ·rename_i x hx;rw[qh9 hF hx];exact bc h
 ·cases h
theorem jig{d:TypeDesc}{k:IntKind}(h:TK.of d= .int k):d= .int k:=by cases d<;>simp_all[TK.of]
theorem jee{d:TypeDesc}(h:TK.of d= .bool):d= .bool:=by cases d<;>simp_all[TK.of]
theorem jih{d:TypeDesc}(h:TK.of d= .str):d= .string:=by cases d<;>simp_all[TK.of]
theorem jas{d:TypeDesc}{e:TypeId}(h:TK.of d= .slice e):d= .slice e:=by cases d<;>simp_all[TK.of]
theorem jif{d:TypeDesc}{n:Nat}{e:TypeId}(h:TK.of d= .arr false n e):d= .array n e:=by cases d<;>simp_all[TK.of]
theorem jat{d:TypeDesc}{l:List (Nat×TypeId)}(h:TK.of d= .strct false l):∃fs:Array Field,d= .struct fs∧(fs.toList.map fun f=>(f.offset,f.type))=l:=by
 cases d<;>simp_all[TK.of]
def jbs(P:Program)(t:TypeId)(u:Ty):Prop:=
 ∀(H:Type) (enc:TypeId×Value→H) (w:World) (sp:Nat→Bool) (held:Bool) (fuel:Nat) (cs:List Value) (x:DataW H×List MemPlace),DataW.trod enc P w 0 sp held fuel t cs=some x→
  ∃m:u.den,u.good m∧cs.length=u.sz∧∀f,f<u.sz→∃y,cs[f]? =some y∧y.oneCell' =true∧Ty.C w (fun _=>False) u m f y
theorem Opn.int{t:TypeId}{k:IntKind}(ht:P.underlying t=some (.int k)):jbs P t (.int k):=by
 intro H enc w sp held fuel cs x hx;obtain⟨n,rfl,_,hw⟩:=DataW.trod_int ht hx;simp only[Lit.wf,Bool.and_eq_true,decide_eq_true_eq]at hw;refine⟨n,hw,rfl,fun f hf=> ?_⟩;obtain rfl:f=0:=by simp[Ty.sz]at hf;omega
 exact⟨_,rfl,rfl,rfl⟩
theorem Opn.bool{t:TypeId}(ht:P.underlying t=some .bool):jbs P t .bool:=by
 intro H enc w sp held fuel cs x hx;obtain⟨b,rfl,_⟩:=DataW.trod_bool ht hx;refine⟨b,trivial,rfl,fun f hf=> ?_⟩;obtain rfl:f=0:=by simp[Ty.sz]at hf;omega
 exact⟨_,rfl,rfl,rfl⟩
theorem Opn.slice{t e:TypeId}{u:Ty}(h:jbs P e u)(ht:P.underlying t=some (.slice e))(hc:P.cellsOf e=u.sz)(h0:0<u.sz):jbs P t (.slice u):=by
 intro H enc w sp held fuel cs x hx;rcases open_slice ht hx with⟨rfl,_⟩|⟨a,len,cap,m,n,D,Pl,rfl,hb,hl,hm,hmm,_,hi⟩
 ·refine⟨([]:List u.den),⟨by simp[maxLen],fun x hx=>by simp at hx⟩,rfl,fun f hf=> ?_⟩;obtain rfl:f=0:=by simp[Ty.sz]at hf;omega
  exact⟨_,rfl,rfl,none,0,rfl,Nat.le_refl _,by simp[maxLen],fun h=>by simp at h⟩
 ·have hlm:len≤m:=by rw[hmm];split<;>omega
  have hel:∀i,i<len→∃y:u.den,u.good y∧∀f,f<u.sz→∃z,w.cell? (a.add (i*u.sz+f))=some z∧z.oneCell' =true∧Ty.C w (fun _=>False) u y f z:=by
   intro i hil;obtain⟨cs',h1,h2⟩:=hi i (by omega);rw[hc]at h1;obtain⟨_,hcl,hat⟩:=World.cells?_some h1;obtain⟨y,hy,hyl,hyc⟩:=h H enc w sp held n cs' _ h2;refine⟨y,hy,fun f hf=> ?_⟩;obtain⟨z,hz,h3⟩:=hyc f hf;exact⟨z,by rw[←Go.Deep.add_add,hat f hf];exact hz,h3⟩
  have hch:∃g:Nat→u.den,∀i,i<len→u.good (g i)∧∀f,f<u.sz→∃z,w.cell? (a.add (i*u.sz+f))=some z∧z.oneCell' =true∧Ty.C w (fun _=>False) u (g i) f z:=by
   refine⟨fun i=>if hi:i<len then Classical.choose (hel i hi)else u.dft,fun i hil=> ?_⟩;simp only[hil,dif_pos];exact Classical.choose_spec (hel i hil)
  obtain⟨g,hg⟩:=hch;refine⟨(List.range len).map g,⟨by simpa using by omega,fun y hy=> ?_⟩,rfl,fun f hf=> ?_⟩
  ·obtain⟨i,hir,rfl⟩:=List.mem_map.1 hy;exact(hg i (List.mem_range.1 hir)).1
  ·obtain rfl:f=0:=by simp[Ty.sz]at hf;omega
   refine⟨_,rfl,rfl,some a,cap,by simp,by simpa using hl,hm,fun h0' => ?_⟩;have hlen:0<len:=by simpa using h0'
   obtain⟨u0,hu0,_⟩:=(hg 0 hlen).2 0 h0;have hs:a.spot=none∧a.block<w.heap.size:=by
    unfold World.cell? at hu0;split at hu0
    ·rename_i hb';split at hu0
     ·cases hu0
     ·rename_i hsp;refine⟨by simpa[Addr.add]using hsp,?_⟩;have:=(Array.getElem?_eq_some_iff.1 hb').1;simpa[Addr.add]using this
    ·cases hu0
   obtain⟨b,o,s⟩:=a;obtain rfl:s=none:=hs.1;refine⟨b,o,rfl,hs.2,fun h=>h,fun i f hi' hf' => ?_⟩;have hil:i<len:=by simpa using hi'
   obtain⟨z,hz,h1,h2⟩:=(hg i hil).2 f hf';have ha:(⟨b,o,none⟩:Addr).add (i*u.sz+f)=⟨b,o+(i*u.sz+f),none⟩:=by
    unfold Addr.add;split
    ·rename_i h;simp[h]
    ·rfl
   refine⟨z,ha▸hz,h1,?_⟩;have e:List.getD (α:=u.den) ((List.range len).map g) i u.dft=g i:=by simp[List.getD_eq_getElem?_getD,hil]
   rw[e];exact h2
theorem qws{H:Type}{enc:TypeId×Value→H}{w:World}{sp:Nat→Bool}{held:Bool}{n:Nat}{cs:List Value}(hF:ew P tt){ok:TypeId→Ty→Bool}(hok:∀t u,ok t u=true→jbs P t u):
  ∀(fs:List (Nat×TypeId)) (l:TyL) (off:Nat),jfs tt ok fs l off=true→(∀p∈fs,∃y,DataW.trod enc P w 0 sp held n p.2 ((cs.drop p.1).take (P.cellsOf p.2))=some y)→
   ∃x:l.den,l.good x∧∀f,f<l.sz→∃u,cs[off+f]? =some u∧u.oneCell' =true∧TyL.C w (fun _=>False) l x f u
 |[], .nil,off,_,_=>⟨(),trivial,fun f hf=>by simp[TyL.sz]at hf⟩
 |[], .cons _ _,off,h,_=>by simp[jfs]at h
 |_::_, .nil,off,h,_=>by simp[jfs]at h
 |(o,t)::fs, .cons u l,off,h,hr=>by
  simp only[jfs,Bool.and_eq_true]at h;obtain⟨h1,h2,h3,h4⟩:=h;have ho:=bc h1;subst ho;have hc:=jez hF h3;obtain⟨y,hy⟩:=hr (o,t) (List.mem_cons_self ..);obtain⟨x1,g1,_,c1⟩:=hok t u h2 H enc w sp held n _ y hy;obtain⟨x2,g2,c2⟩:=qws hF hok fs l (o+u.sz) h4 (fun p hp=>hr p (List.mem_cons_of_mem _ hp));refine⟨(x1,x2),⟨g1,g2⟩,fun f hf=> ?_⟩;unfold TyL.sz at hf;show∃u',cs[o+f]? =some u' ∧u'.oneCell' =true∧(if f<u.sz then Ty.C w (fun _=>False) u x1 f u' else TyL.C w (fun _=>False) l x2 (f-u.sz) u');by_cases hlt:f<u.sz
  ·simp only[if_pos hlt];obtain⟨u',hu',hh⟩:=c1 f hlt;simp only[hc]at hu';rw[List.getElem?_take,if_pos hlt,List.getElem?_drop]at hu';exact⟨u',hu',hh⟩
  ·simp only[if_neg hlt];obtain⟨u',hu',hh⟩:=c2 (f-u.sz) (by omega);refine⟨u',?_,hh⟩;rw[←hu'];congr 1;omega
theorem qz8{H:Type}{enc:TypeId×Value→H}{w:World}{sp:Nat→Bool}{held:Bool}{n:Nat}{cs:List Value}{e:TypeId}{z:Nat}(hz:P.cellsOf e=z){ok:TypeId→Ty→Bool}(hok:∀t u,ok t u=true→jbs P t u):
  ∀(k:Nat) (l:TyL) (i0:Nat),q45 ok e z k l=true→(∀i,i<k→∃y,DataW.trod enc P w 0 sp held n e ((cs.drop ((i0+i)*z)).take z)=some y)→
   ∃x:l.den,l.good x∧∀f,f<l.sz→∃u,cs[i0*z+f]? =some u∧u.oneCell' =true∧TyL.C w (fun _=>False) l x f u
 |0, .nil,i0,_,_=>⟨(),trivial,fun f hf=>by simp[TyL.sz]at hf⟩
 |0, .cons _ _,i0,h,_=>by simp[q45]at h
 |_+1, .nil,i0,h,_=>by simp[q45]at h
 |k+1, .cons u l,i0,h,hr=>by
  simp only[q45,Bool.and_eq_true]at h;obtain⟨h1,h2,h3⟩:=h;have hu:=bc h2;obtain⟨y,hy⟩:=hr 0 (by omega);obtain⟨x1,g1,_,c1⟩:=hok e u h1 H enc w sp held n _ y hy;obtain⟨x2,g2,c2⟩:=qz8 hz hok k l (i0+1) h3 (fun i hi=>by have:=hr (i+1) (by omega);rwa[show i0+(i+1)=i0+1+i by omega]at this);refine⟨(x1,x2),⟨g1,g2⟩,fun f hf=> ?_⟩;unfold TyL.sz at hf;show∃u',cs[i0*z+f]? =some u' ∧u'.oneCell' =true∧(if f<u.sz then Ty.C w (fun _=>False) u x1 f u' else TyL.C w (fun _=>False) l x2 (f-u.sz) u');by_cases hlt:f<u.sz
  ·simp only[if_pos hlt];obtain⟨u',hu',hh⟩:=c1 f hlt;rw[List.getElem?_take,if_pos (by omega),List.getElem?_drop]at hu';exact⟨u',by simpa using hu',hh⟩
  ·simp only[if_neg hlt];obtain⟨u',hu',hh⟩:=c2 (f-u.sz) (by omega);refine⟨u',?_,hh⟩;rw[←hu'];congr 1;rw[Nat.add_mul];omega
theorem jxq(hF:ew P tt):∀(n:Nat) (t:TypeId) (u:Ty),jbk tt n t u=true→jbs P t u:=by
 intro n
 induction n with
 |zero=>intro t u h;simp[jbk]at h
 |succ n ih=>
  intro t u h;unfold jbk at h;split at h
  ·rename_i k k' a1 a2 a3 ht;have hk:k=k' :=by simpa using h
   subst hk;obtain⟨d,hd,hk⟩:=qi hF ht;exact Opn.int (jig hk▸hd)
  ·rename_i a1 a2 a3 ht;obtain⟨d,hd,hk⟩:=qi hF ht;exact Opn.bool (jee hk▸hd)
  ·rename_i a1 a2 a3 ht;obtain⟨d,hd,hk⟩:=qi hF ht;have hs:=jih hk;subst hs;intro H enc w sp held fuel cs x hx;obtain⟨s,rfl,_,hsz⟩:=DataW.trod_string hd hx;refine⟨s,hsz,rfl,fun f hf=> ?_⟩;obtain rfl:f=0:=by simp[Ty.sz]at hf;omega
   exact⟨_,rfl,rfl,rfl⟩
  ·rename_i u e a1 a2 a3 ht;simp only[Bool.and_eq_true]at h;obtain⟨h1,h2,h3⟩:=h;obtain⟨d,hd,hk⟩:=qi hF ht;exact Opn.slice (ih e u h1) (jas hk▸hd) (jez hF h2) (fp h3)
  ·rename_i l c fs sz a2 a3 ht;simp only[Bool.and_eq_true]at h;obtain⟨h1,h2⟩:=h;obtain⟨d,hd,hk⟩:=qi hF ht;obtain⟨fs',hfs,hl⟩:=jat hk;subst hfs;intro H enc w sp held fuel cs x hx;obtain⟨xs,m,hf,_,hcl,hxl,hfl⟩:=DataW.trod_struct hd hx;obtain⟨y,gy,cy⟩:=qws (H:=H) (enc:=enc) (w:=w) (sp:=sp) (held:=held) (n:=m) (cs:=cs) hF ih fs l 0 h1 (by
    intro p hp;rw[←hl]at hp;obtain⟨f,hfm,rfl⟩:=List.mem_map.1 hp;obtain⟨i,hi,hif⟩:=List.getElem_of_mem hfm;have hfi:fs'[i]? =some f:=by rw[←hif];simp at hi;simp[hi]
    have h4:=hfl i f hfi;have hi' :i<fs'.size:=by simpa using hi
    rw[List.getElem?_eq_getElem (by omega)]at h4;exact⟨_,h4⟩)
   have hsz:cs.length=l.sz:=by rw[hcl,qh9 hF ht];exact(bc h2).symm
   exact⟨y,gy,hsz,fun f hf=>by have:=cy f hf;rw[Nat.zero_add]at this;exact this⟩
  ·rename_i l c k e sz a2 a3 ht;split at h
   ·rename_i ei he;simp only[Bool.and_eq_true]at h;obtain⟨h1,h2⟩:=h;obtain⟨d,hd,hk⟩:=qi hF ht;have hd' :=jif hk;subst hd';intro H enc w sp held fuel cs x hx;obtain⟨xs,m,hf,_,hcl,hxl,hfl⟩:=DataW.trod_array hd hx;have hz:=qh9 hF he;obtain⟨y,gy,cy⟩:=qz8 (H:=H) (enc:=enc) (w:=w) (sp:=sp) (held:=held) (n:=m) (cs:=cs) hz ih k l 0 h1 (by
     intro i hi;have h4:=hfl i hi;rw[List.getElem?_eq_getElem (by omega),hz]at h4;exact⟨_,by simpa using h4⟩)
    have hsz:cs.length=l.sz:=by rw[hcl,qh9 hF ht];exact(bc h2).symm
    exact⟨y,gy,hsz,fun f hf=>by have:=cy f hf;rw[Nat.zero_mul,Nat.zero_add]at this;exact this⟩
   ·cases h
  ·cases h
def qq0(tt:TT):List TypeId→ShL→Bool
 |[], .nil=>true
 |t::ts, .cons (.d _ u) l=>jbk tt 12 t u&&qq0 tt ts l
 |_,_=>false
def ShL.good:(l:ShL)→l.den→Prop
 | .nil,_=>True
 | .cons (.d _ t) l,x=>t.good x.1∧l.good x.2
 | .cons _ l,x=>l.good x.2
def gr0(w:World):Gr:=gr (fun _=>False) (vw []) w (fun _=>none)
theorem jla{w:World}{u:Ty}{x:u.den}{f:Nat}{v:Value}(h:Ty.C w (fun _=>False) u x f v)(fr:Bool):Ty.C w (YY (gr0 w).X (gr0 w).U fr) u x f v:=by
 refine Ty.C_low ⟨Nat.le_refl _,fun b _ _ hY=> ?_,fun _ _ _=>rfl⟩ u x f v h;rcases hY with⟨T,o,hT⟩|⟨_,e⟩
 ·cases hT
 ·exact e
theorem q44{H:Type}{enc:TypeId×Value→H}{W:World}{sp:Nat→Bool}{held:Bool}{base:Nat}(hF:ew P tt):∀(ts:List TypeId) (l:ShL),qq0 tt ts l=true→∀(vs:List Value) (ds:List (DataW H)) (ps:List MemPlace),
  DataW.TrodAll enc P W 0 sp held ts vs ds ps→(∀(j:Nat) t v,ts[j]? =some t→vs[j]? =some v→Value.okWide P W .any base t v)→
  ∃a:l.den,l.good a∧jr (gr0 W) (l.enc a) vs
 |[], .nil,_,vs,ds,ps,h,_=>by
  obtain⟨rfl,_,_⟩:=trodAll_nil h;exact⟨(),trivial,rfl⟩
 |[], .cons _ _,h,_,_,_,_,_=>by simp[qq0]at h
 |_::_, .nil,h,_,_,_,_,_=>by simp[qq0]at h
 |t::ts, .cons (.rp _ _) l,h,_,_,_,_,_=>by simp[qq0]at h
 |t::ts, .cons (.kid _ _) l,h,_,_,_,_,_=>by simp[qq0]at h
 |t::ts, .cons (.nl _ _) l,h,_,_,_,_,_=>by simp[qq0]at h
 |t::ts, .cons (.fn _ _) l,h,_,_,_,_,_=>by simp[qq0]at h
 |t::ts, .cons (.agg _) l,h,_,_,_,_,_=>by simp[qq0]at h
 |t::ts, .cons (.own _) l,h,_,_,_,_,_=>by simp[qq0]at h
 |t::ts, .cons (.ptr _) l,h,_,_,_,_,_=>by simp[qq0]at h
 |t::ts, .cons .e l,h,_,_,_,_,_=>by simp[qq0]at h
 |t::ts, .cons (.d fr u) l,h,vs,ds,ps,hA,hval=>by
  simp only[qq0,Bool.and_eq_true]at h;obtain⟨v,vs',d,ds',p,q,rfl,rfl,rfl,h1,h2⟩:=trodAll_cons hA;obtain⟨a2,g2,c2⟩:=q44 hF ts l h.2 vs' ds' q h2 (fun j t' v' hj hv=>hval (j+1) t' v' (by simpa using hj) (by simpa using hv));have hv0:=hval 0 t v rfl rfl;have key:∃x:u.den,u.good x∧VR (gr0 W) (jdk fr u x) v:=by
   have hop:=jxq hF 12 t u h.1;obtain⟨fuel,hf⟩:=h1;obtain⟨x,gx,hl,hc⟩:=hop H enc W sp held fuel _ _ hf;refine⟨x,gx,?_⟩;have one:u.sz=1→v.cells= #[v]→Ty.C W (fun _=>False) u x 0 v:=by
    intro hu hv;obtain⟨u',hu',_,hV⟩:=hc 0 (by omega);rw[hv]at hu';simp at hu';subst hu';exact hV
   have hty:=h.1;unfold jbk at hty;split at hty
   ·rename_i k k' a1 a2 a3 ht;obtain⟨d',hd,hk⟩:=qi hF ht;have:=jig hk;subst this;obtain⟨m,rfl⟩:=okWide_int hd hv0;exact one rfl rfl
   ·rename_i a1 a2 a3 ht;obtain⟨d',hd,hk⟩:=qi hF ht;have:=jee hk;subst this;obtain⟨m,rfl⟩:=okWide_bool hd hv0;exact one rfl rfl
   ·rename_i a1 a2 a3 ht;obtain⟨d',hd,hk⟩:=qi hF ht;have:=jih hk;subst this;obtain⟨m,rfl⟩:=okWide_string hd hv0;exact one rfl rfl
   ·rename_i u' e a1 a2 a3 ht;obtain⟨d',hd,hk⟩:=qi hF ht;have:=jas hk;subst this;obtain⟨a,len,cap,rfl⟩:=okWide_slice hd hv0;exact jla (u:= .slice u') (one rfl rfl) fr
   ·rename_i l' c fs sz a2 a3 ht;obtain⟨d',hd,hk⟩:=qi hF ht;obtain⟨fs',hfs,_⟩:=jat hk;subst hfs;have hv1:=hv0;unfold Value.okWide at hv1;rw[hd]at hv1;obtain⟨cs,rfl,_⟩:=hv1;exact strct hl hc
   ·rename_i l' c k e sz a2 a3 ht;obtain⟨d',hd,hk⟩:=qi hF ht;have:=jif hk;subst this;have hv1:=hv0;unfold Value.okWide at hv1;rw[hd]at hv1;obtain⟨cs,rfl,_⟩:=hv1;exact strct hl hc
   ·cases hty
  obtain⟨x,gx,hV⟩:=key;exact⟨(x,a2),⟨gx,g2⟩,v,vs',rfl,hV,c2⟩
 where
 strct {W:World} {fr:Bool} {l' :TyL} {x:l'.den} {cs:Array Value} (hl:(Value.cells (.agg cs)).toList.length=(Ty.struct l').sz) (hc:∀f,f<(Ty.struct l').sz→∃u,(Value.cells (.agg cs)).toList[f]? =some u∧u.oneCell' =true∧Ty.C W (fun _=>False) (.struct l') x f u):
   VR (gr0 W) (jdk fr (.struct l') x) (.agg cs):=by
  have hlen:(TyL.cells fr l' x).length=l'.sz:=TyL.cells_len fr l' x;have hcl:cs.toList.length=l'.sz:=hl;refine⟨cs.toList,by simp,jr.of (by rw[hcl,hlen]) (fun j A u hA hu=> ?_),fun u hu=> ?_⟩
  ·have hj:j<l'.sz:=by rw[←hlen];exact(List.getElem?_eq_some_iff.1 hA).1
   obtain⟨y,hy,_,h2⟩:=hc j hj;have hy' :cs.toList[j]? =some y:=by simpa[Value.cells]using hy
   rw[hu]at hy';cases hy';have h3:=(Ty.C_iff (gr0 W) fr (.struct l') x j u hj).1 (jla h2 fr);have e:(Ty.cells fr (.struct l') x).getD j .any=A:=by
    have hA' :(Ty.cells fr (.struct l') x)[j]? =some A:=hA;rw[List.getD_eq_getElem?_getD,hA'];rfl
   rw[e]at h3;exact h3
  ·obtain⟨i,hi,hiu⟩:=List.getElem_of_mem hu;obtain⟨y,hy,h1,_⟩:=hc i (by show i<l'.sz;omega);have hy' :cs.toList[i]? =some y:=by simpa[Value.cells]using hy
   rw[List.getElem?_eq_getElem hi,hiu]at hy';cases hy';exact h1
theorem qpk{H:Type}{enc:TypeId×Value→H}(hl:laidOutB P=true){W W' :World}{sp:Nat→Bool}(hb:Below W.heap.size W W'):∀{ts:List TypeId} {vs:List Value} {ds:List (DataW H)} {ps:List MemPlace},
  ts.all (fun t=>P.readableRec t&&decide (t<P.types.size))=true→DataW.TrodAll enc P W 0 (fun _=>true) true ts vs ds ps→(∀x∈ps,x.block<W.heap.size)→(∀x∈ps,sp x.block=true)→DataW.TrodAll enc P W' 0 sp true ts vs ds ps
 |[],[],[],_,_,h,_,_=>h
 |[],_::_,_,_,_,h,_,_=>h.elim
 |[],[],_::_,_,_,h,_,_=>h.elim
 |_::_,[],_,_,_,h,_,_=>h.elim
 |_::_,_::_,[],_,_,h,_,_=>h.elim
 |t::ts,v::vs,d::ds,ps,hr,h,hlt,hsp=>by
  obtain⟨p,q,h1,h2,e⟩:=h;subst e;simp only[List.all_cons,Bool.and_eq_true,decide_eq_true_eq]at hr;exact⟨p,q,WideElems.Trod_stays hl hr.1.1 hr.1.2 h1 (fun x hx=>hb.same (hlt x (List.mem_append_left _ hx))) (fun x hx=>hsp x (List.mem_append_left _ hx)),
   qpk hl hb hr.2 h2 (fun x hx=>hlt x (List.mem_append_right _ hx)) (fun x hx=>hsp x (List.mem_append_right _ hx)),rfl⟩
theorem q4d{H:Type}{enc:TypeId×Value→H}{f:Func}{s:ChangeSpec}{apart fresh handsOn again:Bool}{W W' :World}{args:Array Value}{v:Value}{ds gs:List (DataW H)}{before pa pv:List MemPlace}
  (hW:DataW.Whole enc P f.params.toList s.vars apart W args.toList ds gs before)
  (hres:∀(b:Nat) (sp:Nat→Bool) (hd:Bool),DataW.TrodAll enc P W' b sp hd f.resultTypes.toList (v.resultList f.resultTypes.size) (s.fn H (ds++gs)).results [])
  (hargs:∀sp:Nat→Bool,(∀p∈before,sp p.block=true)→DataW.TrodAll enc P W' 0 sp true f.params.toList args.toList (s.fn H (ds++gs)).args pa)
  (hvars:∀sp:Nat→Bool,(∀p∈before,sp p.block=true)→DataW.TrodVars enc P W' sp s.vars (s.fn H (ds++gs)).vars pv)
  (hps:before=pa++pv) (hb:Below W.heap.size W W')
  (hok:∀(j:Nat) (t:TypeId) (r:Value),f.resultTypes[j]? =some t→(v.resultList f.resultTypes.size)[j]? =some r→Value.okWide P W' .any 0 t r):
  s.post enc P f apart fresh handsOn again W args v W' :=by
 have hlt:∀p∈before,p.block<W.heap.size:=fun p hp=>hW.lt p hp
 have hold:∀p∈before,(fun b=>decide (b<W.heap.size)) p.block=true:=fun p hp=>by simpa using hlt p hp
 refine⟨ds,gs,before,[],pa,pv,hW,hres _ _ _,hargs _ hold,hvars _ hold,World.keptBut_mono (fun p hp=>⟨hp,?_⟩) (hb.frame (·∈before)),fun _=> ?_⟩
 ·rw[hps,List.mem_append]at hp;exact Or.inr hp
 ·obtain⟨_,_,_,_,_,hz,hn⟩:=hW;refine⟨hok,_,_,([]++pa)++pv,⟨[]++pa,pv,trodAll_append (hargs _ (fun _ _=>rfl)) (hres _ _ _),hvars _ (fun _ _=>rfl),rfl,?_,?_⟩,?_⟩
  ·intro b off hp;have hin:MemPlace.cell b off∈before:=by rw[hps];simpa using hp
   rw[hb.frozen (hlt _ hin)];exact hz b off hin
  ·intro ha;have:=hn ha;rw[hps]at this;simpa using this
  ·intro p hp _;rw[hps];simpa using hp
theorem HR0(w:World):HR (fun _=>False) w (fun _=>none) (cf []) (vw []) w (fun _=>none):=by
 refine⟨(fun T T' g o o' h=>by cases h),(fun T p h=>by cases h),fun T v hv=> ?_,(fun T g o h=>by cases h),rfl,rfl,rfl,Nat.le_refl _,(fun _ _ _=>rfl),(fun _ _=>rfl),(fun t g o _ h=>by cases h),fun b h=>h.elim⟩;cases T<;>simp[vw]at hv
theorem q7i{H:Type}{enc:TypeId×Value→H}{F:FuncId}{f:Func}{s:ChangeSpec}{apart fresh handsOn again:Bool}{W:World}{args:Array Value}{ds:List (DataW H)}{before:List MemPlace}{rt:TypeId}{base:Nat}(hF:ew P tt)
  {l:ShL} {m:l.den×yb []→Option Bool} (hM:MdlOK P F (ay l [] [] 1 ⟨[(0, .d true .bool)],[]⟩ (fun(b:Bool)=>((b,()),())) m)) (har:qq0 tt f.params.toList l=true) (htrue:∀a:l.den,l.good a→m (a,())=some true)
  (hl:laidOutB P=true) (hr:f.params.toList.all (fun t=>P.readableRec t&&decide (t<P.types.size))=true)
  (hv0:s.vars=[]) (hW:DataW.Whole enc P f.params.toList s.vars apart W args.toList ds [] before) (hA:DataW.TrodAll enc P W 0 (fun _=>true) true f.params.toList args.toList ds before)
  (hval:∀(j:Nat) t v,f.params[j]? =some t→args[j]? =some v→Value.okWide P W .any base t v)
  (hsr:(s.fn H (ds++[])).results=[.lit (.bool true)]) (hsa:(s.fn H (ds++[])).args=ds) (hsv:(s.fn H (ds++[])).vars=[]) (hrt:f.resultTypes= #[rt]) (hbt:P.underlying rt=some .bool):
  Calls P F args W fun e W' =>∃v,e= .returned v∧s.post enc P f apart fresh handsOn again W args v W' :=by
 obtain⟨a,ga,hc⟩:=q44 hF f.params.toList l har args.toList ds before hA (fun j t v hj hv=>hval j t v (by simpa using hj) (by simpa using hv));have hrun:=hM.run (a,()) true (htrue a ga) (fun _=>False) W (fun _=>none) (HR0 W) args.toList hc;rw[Array.toArray_toList]at hrun;refine hrun.mono fun e W' => ?_
 rintro⟨v,σ',rfl,hS,hV⟩;have hb:Below W.heap.size W W' :=⟨hS.os,hS.tape,hS.output,hS.size,fun k hk=>hS.blk k hk (by simp)⟩;have hv:v= .bool true:=hV;subst hv;refine⟨_,rfl,q4d (pa:=before) (pv:=[]) hW ?_ ?_ ?_ (by simp) hb ?_⟩
 ·intro b sp hd;rw[hsr,hrt];exact trodAll_mk1 (shut_bool hbt true)
 ·intro sp hsp;rw[hsa];exact qpk hl hb hr hA (fun x hx=>hW.lt x hx) hsp
 ·intro sp hsp;rw[hsv,hv0];exact rfl
 ·exact ok_one hrt rfl (okWide_bool_mk hbt true)
theorem qxv{H:Type}{enc:TypeId×Value→H}{W:World}{sp:Nat→Bool}{held:Bool}:∀{ts:List TypeId} {vs:List Value} {ds:List (DataW H)} {ps:List MemPlace},DataW.TrodAll enc P W 0 sp held ts vs ds ps→ds.length=ts.length
 |[],vs,ds,ps,h=>by obtain⟨_,rfl,_⟩:=trodAll_nil h;rfl
 |t::ts,vs,ds,ps,h=>by
  obtain⟨v,vs',d,ds',p,q,rfl,rfl,rfl,h1,h2⟩:=trodAll_cons h;simp[qxv h2]
end
end Go.K
namespace Go.M
open Go.K
theorem qx{α:Type}{c:Bool}(h:c=true)(m:Option α):aq c m=m:=by subst h;rfl
theorem qm8{α:Type}{c:Bool}(h:c=true)(a b:α):(bif c then a else b)=a:=by subst h;rfl
theorem qm7{α:Type}{c:Bool}(h:c=false)(a b:α):(bif c then a else b)=b:=by subst h;rfl
theorem jps{i:Nat}{n:Nat}(h:i<n):ix (i:Int) n=true:=by simp[ix,h]
theorem jki{n:Int}(h1: -9223372036854775808≤n)(h2:n≤9223372036854775807):d8 .i64 n=true:=by simp only[d8,Bool.and_eq_true,jea];exact⟨h1,h2⟩
theorem ou{S E R:Type}{step:S→Option (LR S E R)}(st:Nat→S)(n:Nat)(hn:n<many)(p:Nat→Bool)(e:E)(r:R)
  (h:∀i,i<n→p i=true→step (st i)=some (.next (st (i+1)))) (hf:∀i,i<n→p i=false→step (st i)=some (.ret r)) (hd:step (st n)=some (.done e)):
  bp step (st 0)=some (bif (List.range n).all p then .inl e else .inr r):=by
 by_cases hall:∀i,i<n→p i=true
 ·have:(List.range n).all p=true:=by simpa using hall
  rw[this];exact qd4 st n hn (.inl e) (fun i hi=>h i hi (hall i hi)) hd
 ·have hex:∃i,i<n∧p i=false:=by
   refine Classical.byContradiction fun hne=>hall fun i hi=> ?_
   cases hp:p i with
   |true=>rfl
   |false=>exact absurd ⟨i,hi,hp⟩ hne
  have hmin:∃k,k<n∧p k=false∧∀i,i<k→p i=true:=by
   obtain⟨i,hi,hp⟩:=hex
   induction i using Nat.strongRecOn with
   |_ i ih=>
    by_cases hlow:∀j,j<i→p j=true
    ·exact⟨i,hi,hp,hlow⟩
    ·have:∃j,j<i∧p j=false:=by
      refine Classical.byContradiction fun hne=>hlow fun j hj=> ?_
      cases hq:p j with
      |true=>rfl
      |false=>exact absurd ⟨j,hj,hq⟩ hne
     obtain⟨j,hj,hq⟩:=this;exact ih j hj (by omega) hq
  obtain⟨k,hk,hp,hlow⟩:=hmin;have:(List.range n).all p=false:=by
   rw[List.all_eq_false];exact⟨k,by simpa using hk,by simp[hp]⟩
  rw[this];exact qif st k (by omega) (.ret r) (.inr r) rfl (fun i hi=>h i (by omega) (hlow i hi)) (hf k hk hp)
theorem f9{S E R:Type}{step:S→Option (LR S E R)}(st:Nat→S)(n:Nat)(hn:n<many)(e:E)(h:∀i,i<n→step (st i)=some (.next (st (i+1))))(hd:step (st n)=some (.done e))(s:S)(hs:s=st 0):
  bp step s=some (.inl e):=by
 subst hs;exact qd4 st n hn (.inl e) h hd
theorem ld{α:Type}(xs:List α)(i:Nat)(d:α)(h:i<xs.length):xs.getD i d=xs[i]:=by simp[List.getD_eq_getElem?_getD,h]
theorem a8{α:Type}(l:List α)(i:Nat)(d:α)(h:i<l.length):l.take (i+1)=l.take i++[l.getD i d]:=by
 rw[List.take_add_one,ld l i d h];simp[h]
theorem ov{α:Type}{l:List α}{x:α}(d:α)(h:x∈l):∃i,i<l.length∧l.getD i d=x:=by
 obtain⟨i,hi,rfl⟩:=List.getElem_of_mem h;exact⟨i,hi,ld l i d hi⟩
theorem au{α:Type}{l:List α}{i:Nat}(d:α)(h:i<l.length):l.getD i d∈l:=by
 rw[ld l i d h];exact List.getElem_mem h
theorem ao{α:Type}{i:Int}{n:Nat}{m:Option α}(h0:0≤i)(h1:i<(n:Int)):aq (ix i n) m=m:=qx (by simp[ix,h0,h1]) m
theorem br{α:Type}{e:Int}{m:Option α}(h0: -9223372036854775808≤e)(h1:e≤9223372036854775807):aq (d8 .i64 e) m=m:=qx (jki h0 h1) m
theorem d9{α:Type}{n b:Nat}{m:Option α}(h0:n≤9223372036854775807)(h1:n*b≤140737488355328):aq (room n b) m=m:=qx (by simp[room,h0,h1]) m
theorem qq3{α:Type}{l h:Int}{n:Nat}{m:Option α}(h0:0≤l)(h1:l≤h)(h2:h≤(n:Int)):aq (cut l h n) m=m:=qx (by simp[cut,h0,h1,h2]) m
theorem jns{α:Type}{l c:Int}{b:Nat}{m:Option α}(h0:0≤l)(h1:l≤c)(h2:(b:Int)*c≤281474976710656)(h3:c≤9223372036854775807):aq (q31 l c b) m=m:=qx (by simp[q31,h0,h1,h2,h3]) m
theorem jnt{α:Type}{a b:Int}{m:Option α}(h:a≠b):aq (!decide (a=b)) m=m:=qx (by simp[h]) m
theorem cg{α:Type}{a b:Int}{x y:α}(h:a<b):(bif decide (a<b)then x else y)=x:=qm8 (by simp[h]) x y
theorem cp{α:Type}{a b:Int}{x y:α}(h:b≤a):(bif decide (a<b)then x else y)=y:=qm7 (by simp;omega) x y
theorem qpo{α:Type}{a b:Int}{x y:α}(h:a≤b):(bif decide (a≤b)then x else y)=x:=qm8 (by simp[h]) x y
theorem qc9{α:Type}{a b:Int}{x y:α}(h:b<a):(bif decide (a≤b)then x else y)=y:=qm7 (by simp;omega) x y
theorem jby{α:Type}{a b:Int}{x y:α}(h:a=b):(bif decide (a=b)then x else y)=x:=qm8 (by simp[h]) x y
theorem q6t{α:Type}{a b:Int}{x y:α}(h:a≠b):(bif decide (a=b)then x else y)=y:=qm7 (by simp[h]) x y
theorem jnl{α:Type}{a b:Int}{x y:α}(h:a≠b):(bif !decide (a=b)then x else y)=x:=qm8 (by simp[h]) x y
theorem jjx{α:Type}{a b:Int}{x y:α}(h:a=b):(bif !decide (a=b)then x else y)=y:=qm7 (by simp[h]) x y
theorem jjy{α:Type}{c:Bool}{x y:α}:(bif !c then x else y)=(bif c then y else x):=by cases c<;>rfl
theorem jfe{α:Type}{x y:α}:(bif true then x else y)=x:=rfl
theorem jbz{α:Type}{x y:α}:(bif false then x else y)=y:=rfl
def jsx{S E R:Type}:E⊕R→LR S E R
 | .inl e=> .done e
 | .inr r=> .ret r
theorem q5q{α A S E R:Type}{step:S→Option (LR S E R)}(o:List α)(d:α)(ho:o.length<many)(st:Nat→A→S)(inv:Nat→A→Prop)(F:List α→A→E⊕R)
  (hnil:∀a,inv o.length a→step (st o.length a)=some (jsx (F [] a)))
  (hcons:∀i a,i<o.length→inv i a→(∃a',step (st i a)=some (.next (st (i+1) a'))∧inv (i+1) a' ∧F (o.getD i d::o.drop (i+1)) a=F (o.drop (i+1)) a')∨step (st i a)=some (jsx (F (o.getD i d::o.drop (i+1)) a)))
  (a:A) (ha:inv 0 a) (s:S) (hs:s=st 0 a):bp step s=some (F o a):=by
 subst hs
 suffices H:∀k i,i+k=o.length→∀m,k<m→∀a,inv i a→q0m step m (st i a)=some (F (o.drop i) a) by
  have:=H o.length 0 (by omega) many ho a ha;rw[List.drop_zero]at this;exact this
 intro k
 induction k with
 |zero=>
  intro i hi m hm a ha;obtain⟨m,rfl⟩:∃q,m=q+1:=⟨m-1,by omega⟩;obtain rfl:i=o.length:=by omega
  rw[qar,hnil a ha,List.drop_length];cases F [] a<;>rfl
 |succ k ih=>
  intro i hi m hm a ha;obtain⟨m,rfl⟩:∃q,m=q+1:=⟨m-1,by omega⟩;have hlt:i<o.length:=by omega
  have hd:o.drop i=o.getD i d::o.drop (i+1):=by rw[ld o i d hlt];exact List.drop_eq_getElem_cons hlt
  rw[qar,hd];rcases hcons i a hlt ha with⟨a',h1,h2,h3⟩|h1
  ·rw[h1,h3];exact ih (i+1) (by omega) m (by omega) a' h2
  ·rw[h1];cases F (o.getD i d::o.drop (i+1)) a<;>rfl
end Go.M
namespace Go.M
open Go.K
theorem cr{n:Nat}(h:n≤9223372036854775807):n<many:=by unfold many;omega
theorem ai(i:Nat):((i:Int)+1)=((i+1:Nat):Int):=by omega
abbrev c6{α:Type}(N:Nat)(f:Nat→α):List α:=(List.range N).map f
theorem jk6{α:Type}(N:Nat)(f:Nat→α):(c6 N f).length=N:=by simp[c6]
theorem ji8{α:Type}{N:Nat}{f:Nat→α}{v:Nat}{d:α}(h:v<N):(c6 N f).getD v d=f v:=by simp[c6,List.getD_eq_getElem?_getD,h]
theorem je2{α:Type}{N:Nat}{f:Nat→α}{w:Nat}{x:α}:(c6 N f).set w x=c6 N (fun v=>if v=w then x else f v):=by
 refine List.ext_getElem (by simp[c6]) fun i h1 h2=> ?_
 simp only[List.getElem_set,c6,List.getElem_map,List.getElem_range];by_cases e:i=w
 ·simp[e]
 ·simp[e,Ne.symm e]
theorem je1{α:Type}(N:Nat)(x:α):List.replicate N x=c6 N (fun _=>x):=by
 refine List.ext_getElem (by simp[c6]) fun i h1 h2=> ?_
 simp[c6]
theorem je0{α:Type}{N:Nat}{f:Nat→α}{x:α}:x∈c6 N f↔∃i,i<N∧f i=x:=by simp[c6]
theorem q9f{α:Type}(l:List α)(d:α)(p:α→Bool):(List.range l.length).all (fun i=>p (l.getD i d))=l.all p:=by
 rw[Bool.eq_iff_iff,List.all_eq_true,List.all_eq_true];constructor
 ·intro h x hx;obtain⟨i,hi,rfl⟩:=ov d hx;exact h i (List.mem_range.2 hi)
 ·intro h i hi;exact h _ (au d (List.mem_range.1 hi))
end Go.M
namespace Go.M
open Go.K
def nj{α:Type}(q:α→Bool):List α→Option Nat
 |[]=>none
 |a::l=>bif q a then some 0 else(nj q l).map (·+1)
def qre{α:Type}(q:α→Bool)(l:List α):Int:=match nj q l with|some i=>(i:Int)|none=> -1
theorem qdn{α:Type}{q:α→Bool}(d:α):∀{l:List α} {i:Nat},nj q l=some i→i<l.length∧q (l.getD i d)=true∧∀j,j<i→q (l.getD j d)=false
 |[],i,h=>by cases h
 |a::l,i,h=>by
  unfold nj at h;cases hq:q a with
  |true=>
   rw[hq]at h;cases h;exact⟨by simp,hq,fun j hj=>by omega⟩
  |false=>
   rw[hq]at h;cases hf:nj q l with
   |none=>rw[hf]at h;cases h
   |some k=>
    rw[hf]at h;cases h;obtain⟨h1,h2,h3⟩:=qdn d hf;refine⟨by simp;omega,h2,fun j hj=> ?_⟩;have hj' :j<k+1:=hj;cases j with
    |zero=>exact hq
    |succ j=>exact h3 j (by omega)
theorem qdm{α:Type}{q:α→Bool}:∀{l:List α},nj q l=none→∀x∈l,q x=false
 |[],_,x,hx=>by simp at hx
 |a::l,h,x,hx=>by
  unfold nj at h;cases hq:q a with
  |true=>rw[hq]at h;cases h
  |false=>
   rw[hq]at h;cases hf:nj q l with
   |some k=>rw[hf]at h;cases h
   |none=>
    rcases List.mem_cons.1 hx with rfl|hx
    ·exact hq
    ·exact qdm hf x hx
theorem qbt{α:Type}(q:α→Bool):∀l:List α,(nj q l).isSome=l.any q
 |[]=>rfl
 |a::l=>by
  unfold nj;rw[List.any_cons,←qbt q l];cases q a with
  |true=>rfl
  |false=>cases nj q l<;>rfl
theorem q0b{α:Type}{q p:α→Bool}:∀{l:List α},(∀x∈l,q x=p x)→nj q l=nj p l
 |[],_=>rfl
 |a::l,h=>by
  unfold nj;rw[h a (by simp),q0b fun x hx=>h x (by simp[hx])]
theorem jbv{α:Type}{q p:α→Bool}{l:List α}(h:∀x∈l,q x=p x):l.any q=l.any p:=by
 rw[←qbt,←qbt,q0b h]
theorem qdb{α:Type}(q:α→Bool)(l:List α):decide ((0:Int)≤qre q l)=l.any q:=by
 rw[←qbt];unfold qre;cases nj q l with
 |none=>rfl
 |some i=>simp
theorem q99{α:Type}(q:α→Bool)(l:List α):decide (qre q l<(0:Int))= !l.any q:=by
 rw[←qbt];unfold qre;cases nj q l with
 |none=>rfl
 |some i=>simp
def qq8{Rr:Type}(g:Nat→Rr):Option Nat→Unit⊕Rr
 |some i=> .inr (g i)
 |none=> .inl ()
theorem qe4{α:Type}{b:Bool}{x y:α}:(bif b then some x else some y)=some (bif b then x else y):=by cases b<;>rfl
theorem l9{α Rr:Type}{step:Int→Option (LR Int Unit Rr)}(l:List α)(d:α)(q:α→Bool)(g:Nat→Rr)(hl:l.length≤9223372036854775806)
  (h:∀i:Nat,i<l.length→step (i:Int)=some (bif q (l.getD i d)then .ret (g i)else .next ((i+1:Nat):Int))) (hd:step (l.length:Int)=some (.done ())):
  bp step 0=some (qq8 g (nj q l)):=by
 cases hf:nj q l with
 |none=>
  refine qd4 (fun i:Nat=>(i:Int)) l.length (by unfold many;omega) (.inl ()) (fun i hi=> ?_) hd;rw[h i hi,qdm hf _ (au d hi)];rfl
 |some k=>
  obtain⟨h1,h2,h3⟩:=qdn d hf;refine qif (fun i:Nat=>(i:Int)) k (by unfold many;omega) (.ret (g k)) (.inr (g k)) rfl (fun i hi=> ?_) ?_
  ·rw[h i (by omega),h3 i hi];rfl
  ·rw[h k h1,h2];rfl
theorem kc{α Rr:Type}{step:Int→Option (LR Int Unit Rr)}(l:List α)(d:α)(q:α→Bool)(c:Rr)(hl:l.length≤9223372036854775806)
  (h:∀i:Nat,i<l.length→step (i:Int)=some (bif q (l.getD i d)then .ret c else .next ((i+1:Nat):Int))) (hd:step (l.length:Int)=some (.done ())):
  bp step 0=some (bif l.any q then .inr c else .inl ()):=by
 rw[l9 l d q (fun _=>c) hl h hd,←qbt];cases nj q l<;>rfl
theorem yc{α:Type}(q:α→Bool)(l:List α):lk (qq8 (fun i=>(i:Int)) (nj q l)) (fun _=>some (-1:Int)) (fun r=>some r)=some (qre q l):=by
 unfold qre;cases nj q l<;>rfl
end Go.M
namespace Go.K
open Go.M Go.RowKit
def jsy:Nat→Nat→List Bool
 |0,_=>[]
 |k+1,n=>bif Nat.ble n 1 then []else Nat.beq (n % 2) 1::jsy k (n/2)
def jc(f:Func)(p:Nat):Code:=jdg (q6v f) (jsy 80 p)
def lc(id:Nat)(f:Func)(p:Nat):Code:= .block id (.loop (jc f p))
section
variable {P : Program} {tt : TT} {Rf : Type}
structure CtxM (P : Program) (X : Ctx Rf) : Prop where
 ok : CtxOK P X
 mix : P.follows .mixedOrders = true
theorem m0:qv P []:=trivial
theorem mC{f:FuncId}{M:Mdl}{l:List (FuncId×Mdl)}(h:MdlOK P f M)(t:qv P l):qv P ((f,M)::l):=⟨h,t⟩
theorem iu{N:Nat}{wr dt:Bool}{kp:List Bool}{l:List (FuncId×Mdl)}{Λ:Nat→Option (Summ Rf)}{res:TS→Option Rf}(hF:ew P tt)(hm:P.follows .mixedOrders=true)(h:qv P l):CtxM P ⟨N,tt,wr,dt,kp,ia l,Λ,res⟩:=⟨⟨hF,jpq h.all⟩,hm⟩
theorem s0{X:Ctx Rf}:qxy P X []:=trivial
theorem sC{X:Ctx Rf}{i:Nat}{c:Code}{l:List (Nat×Code)}(h:ax P X i c)(t:qxy P X l):qxy P X ((i,c)::l):=⟨h,t⟩
theorem lp{X:Ctx Rf}{n id:Nat}{f:Func}{p:Nat}{shI shE:Shp}{C S CE E:Type}{un:shI.den→C×S}{mkE:CE→E→shE.den}{pE:C→CE}
  {stepK:{R:Type}→C→S→(S→Option R)→(E→Option R)→(Rf→Option R)→Option R}
  (hΛ:X.Λ n=some (ar Rf X.N X.kp shI un shE mkE pE stepK)) (hX:CtxM P X) (ann:Ann) {l:List (Nat×Code)} (hl:qxy P X l) (mk:C→S→shI.den) (unE:shE.den→CE×E)
  (hs:v6 (jc f p) ann=l:=by kernel_rfl) (hmk:∀x,mk (un x).1 (un x).2=x:=by intro _;kernel_rfl) (hmkE:∀y,mkE (unE y).1 (unE y).2=y:=by intro _;kernel_rfl)
  (hpar:∀(R:Type) (K:C→S→Option R) (D:CE→E→Option R) (T:Rf→Option R) (c:C) (a:S),
   den X (jc f p) ann (shI.enc (mk c a)) (fun s' =>match shI.dec X.N X.kp s' with|some x=>K (un x).1 (un x).2|none=>none)
    (fun id' s' =>bif Nat.beq id' id then(match shE.dec X.N X.kp s' with|some y=>D (unE y).1 (unE y).2|none=>none)else none) T=stepK c a (K c) (D (pE c)) T:=by intro R K D T c a;kernel_rfl):
  ax P X n (lc id f p):=
 jkq hX.ok hX.mix (qxy.all hs hl) hΛ hmk hmkE hpar
theorem jn{X:Ctx Rf}{n:Nat}{f:Func}{p:Nat}{shI shE:Shp}{A CE E:Type}{un:shI.den→A}{mkE:CE→E→shE.den}{pE:A→CE}
  {stepK:{R:Type}→A→(E→Option R)→(Rf→Option R)→Option R}
  (hΛ:X.Λ n=some (u4 Rf X.N X.kp shI un shE mkE pE stepK)) (hX:CtxM P X) (ann:Ann) {l:List (Nat×Code)} (hl:qxy P X l) (mk:A→shI.den) (unE:shE.den→CE×E)
  (hs:v6 (jc f p) ann=l:=by kernel_rfl) (hmk:∀x,mk (un x)=x:=by intro _;kernel_rfl) (hmkE:∀y,mkE (unE y).1 (unE y).2=y:=by intro _;kernel_rfl)
  (hpar:∀(R:Type) (D:CE→E→Option R) (T:Rf→Option R) (a:A),
   den X (jc f p) ann (shI.enc (mk a)) (fun s' =>match shE.dec X.N X.kp s' with|some y=>D (unE y).1 (unE y).2|none=>none) (fun _ _=>none) T=stepK a (D (pE a)) T:=by intro R D T c;kernel_rfl):
  ax P X n (jc f p):=
 jkj hX.ok hX.mix (qxy.all hs hl) hΛ hmk hmkE hpar
theorem iq{f:FuncId}{fn:Func}(hf:P.funcs[f]? =some fn){B:Type}{X:Ctx B}{rs:List ResultVar}{l:ShL}{objs:List Hs}{sh:Shp}{un:sh.den→B}{mk:B→sh.den}{m:l.den×yb objs→Option B}
  (hres:X.res=ce X.N X.tt X.kp rs sh un) (hX:CtxM P X) (ann:Ann) {sl:List (Nat×Code)} (hsl:qxy P X sl)
  (hname:(fn.name== "runtime.NumGoroutine")=false:=by kernel_rfl) (hb:fn.body=some (q6v fn):=by kernel_rfl) (hN:fn.ntmps=X.N:=by kernel_rfl)
  (hrs:fn.results=rs.toArray:=by kernel_rfl) (hmk:∀x,mk (un x)=x:=by intro _;kernel_rfl) (hs:v6 (q6v fn) ann=sl:=by kernel_rfl) (hl:Nat.ble l.len X.N=true:=by kernel_rfl) (hfr:sh.frB=true:=by kernel_rfl)
  (hden:∀a,den X (q6v fn) ann ⟨qq7 0 (l.enc a.1),f8 objs a.2⟩ X.res (fun _ _=>none) some=m a:=by intro a;kernel_rfl):MdlOK P f (ay l objs X.kp rs.length sh mk m):=
 jsv hf hname hb hN hrs hmk hres hX.ok hX.mix (qxy.all hs hsl) (Nat.le_of_ble_eq_true hl) hfr hden
end
end Go.K
namespace Go.K
open Go.M
theorem rs:
  (∀{α:Type} {i:Int} {n:Nat} {m:Option α},0≤i→i<(n:Int)→aq (ix i n) m=m)∧
  (∀{α:Type} {e:Int} {m:Option α},-9223372036854775808≤e→e≤9223372036854775807→aq (d8 .i64 e) m=m)∧
  (∀{α:Type} {n b:Nat} {m:Option α},n≤9223372036854775807→n*b≤140737488355328→aq (room n b) m=m)∧
  (∀{α:Type} {l h:Int} {n:Nat} {m:Option α},0≤l→l≤h→h≤(n:Int)→aq (cut l h n) m=m)∧
  (∀{α:Type} {l c:Int} {b:Nat} {m:Option α},0≤l→l≤c→(b:Int)*c≤281474976710656→c≤9223372036854775807→aq (q31 l c b) m=m)∧
  (∀{α:Type} {a b:Int} {m:Option α},a≠b→aq (!decide (a=b)) m=m)∧
  (∀{α:Type} {a b:Int} {x y:α},a<b→(bif decide (a<b)then x else y)=x)∧
  (∀{α:Type} {a b:Int} {x y:α},b≤a→(bif decide (a<b)then x else y)=y)∧
  (∀{α:Type} {a b:Int} {x y:α},a≤b→(bif decide (a≤b)then x else y)=x)∧
  (∀{α:Type} {a b:Int} {x y:α},b<a→(bif decide (a≤b)then x else y)=y)∧
  (∀{α:Type} {a b:Int} {x y:α},a=b→(bif decide (a=b)then x else y)=x)∧
  (∀{α:Type} {a b:Int} {x y:α},a≠b→(bif decide (a=b)then x else y)=y)∧
  (∀{α:Type} {a b:Int} {x y:α},a≠b→(bif !decide (a=b)then x else y)=x)∧
  (∀{α:Type} {a b:Int} {x y:α},a=b→(bif !decide (a=b)then x else y)=y)∧
  (∀{α:Type} {c:Bool} {x y:α},(bif !c then x else y)=(bif c then y else x))∧
  (∀{α:Type} {x y:α},(bif true then x else y)=x)∧(∀{α:Type} {x y:α},(bif false then x else y)=y)∧
  (∀{α β:Type} (a:α) (k:α→Option β),bnd (some a) k=k a)∧
  (∀{E R β:Type} (e:E) (k1:E→β) (k2:R→β),lk (.inl e) k1 k2=k1 e)∧(∀{E R β:Type} (e:R) (k1:E→β) (k2:R→β),lk (.inr e) k1 k2=k2 e)∧
  (∀n:Nat,Int.toNat (n:Int)=n)∧(∀h:Decidable True,@decide True h=true):=
 ⟨ao,br,d9,qq3,jns,jnt,cg,cp,qpo,qc9,jby,q6t,jnl,jjx,jjy,jfe,jbz,ah,gf,quf,Int.toNat_natCast,fun h=> @decide_true h⟩
end Go.K
namespace Go.K
open Go.M Go.RowKit
theorem jjb(T:TG):vw [] T=none:=by
 cases T<;>rfl
theorem jht{P:Program}{f:FuncId}{fn:Func}(hf:P.funcs[f]? =some fn)(hname:(fn.name== "runtime.NumGoroutine")=false)(hb:fn.body.isNone=false){l:ShL}{m:l.den×yb []→Option ByteArray}
  (h:∀a b,m a=some b→∀(G:Gr) (vs:List Value),jr G (l.enc a.1) vs→Calls P f vs.toArray G.w fun e w' =>e= .returned (.string b)∧Below G.w.heap.size G.w w'):
  MdlOK P f (ay l [] [] 1 ⟨[(0, .d true .str)],[]⟩ (B:=ByteArray) (fun b=>((b,()),())) m):=by
 refine⟨⟨fn,hf,hname,hb⟩,fun a b hm U w σ hHR vs hvs=> ?_,q7m,fun a b _=>qui (by rfl) a b⟩;have hσ:∀T,σ T=none:=fun T=>by
  cases hq:σ T with
  |none=>rfl
  |some p=>
   obtain⟨v,hv⟩:=hHR.dom T p hq;have hv:vw [] T=some v:=hv;rw[jjb]at hv;cases hv
 refine(h a b hm (gr U (vw []) w σ) vs hvs).mono ?_;rintro e w' ⟨rfl,hB⟩;refine⟨_,σ,rfl,⟨hHR.inj,hHR.dom,fun T v hv=> ?_,fun T g o hT=> ?_,hB.os,hB.tape,hB.output,hB.size,fun k hk _=>hB.block k hk,fun _ _=>rfl,fun t g o _ ht=> ?_,hHR.ulow⟩,rfl⟩
 ·have hv:vw [] T=some v:=hv;rw[jjb]at hv;cases hv
 ·rw[hσ]at hT;cases hT
 ·rw[hσ]at ht;cases ht
def by2(n:Int):List UInt8:=[UInt8.ofNat (n % 256).toNat,UInt8.ofNat (n/256 % 256).toNat]
def ya(l:List Int):List UInt8:=l.flatMap by2
def jkk(l:List Int):Option ByteArray:=if l.length≤1000000 then some ⟨(ya l).toArray⟩else none
theorem va:∀l:List Int,(ya l).length=2*l.length
 |[]=>rfl
 |x::l=>by
  have:=va l;show(by2 x++ya l).length=2*(l.length+1);rw[List.length_append,this];show 2+_=_;omega
end Go.K
