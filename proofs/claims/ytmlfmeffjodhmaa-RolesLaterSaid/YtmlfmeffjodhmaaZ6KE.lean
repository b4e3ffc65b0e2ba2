/-
  A typed machine over the model's memory (part KE). No program is named.
-/
import Derived.ProofKit
import Derived.Deep.Slices
import Derived.Deep.Fields
import Derived.ChangeSame
import Derived.Below
import Derived.Carry
import Derived.OpenShut
import Derived.KernelRfl
import Derived.Test.YtmlfmeffjodhmaaZ6KD
set_option linter.all false
namespace Go.K
open Go.M Go.RowKit
section
variable {U U' : Nat → Prop} {w0 : World} {σ0 : Pl} {K : Nat → Bool} {H Hv : List TOb} {w : World} {σ : Pl} {ρ : wn} {bo : Bool} {l : List Hs} {y : sg l}
theorem qnx(hl:HLe (fun _=>False) Hv H){i tg:Nat}{ty:TypeId}{md md' :Md}{its:List TypeId}{t:Ty}{xs:List t.den}{H' :List TOb}(ho:Hv[tg]? =some (.arr ty md' its t xs))(ho' :H'[i]? =some (.arr ty md its t xs))(hm:qps md md' =true)(j f:Nat):
  vw H' (.r i j f)=vw H (.r tg j f):=by
 rw[kf ho',kf (hl.ob ho)];have:md.isOwn=md'.isOwn:=by cases md<;>cases md' <;>simp_all[qps,Md.isOwn]
 rw[this]
theorem qyr(hr:HR U w0 σ0 K (vw H) w σ)(hl:HLe (fun _=>False) Hv H)(hok:qa6 ρ=true)(hu:∀b,U' b→U b∨fk σ b)(hnb:bo=false→∀b,U' b→U b)(hy:zb bo ρ Hv ρ l=some y):Cv U U' w0 σ0 K H Hv (ez l y) w σ ρ bo:=by
 obtain⟨_,_,hat⟩:=qei ρ l y hy;refine⟨hr,hl,hok,hu,hnb,fun i tg hi=> ?_,fun i hi=> ?_,fun i tg hi j f q hq=> ?_⟩
 ·obtain⟨hs,xi,h1,h2⟩:=hat i _ hi;rcases Hs.dec_cases h1 with⟨e,_⟩|⟨tg',ty,md,md',its,t,xs,e,ho,_,he⟩|⟨tg',ty,sz,n,m,cs,x,e,ho,_,_,he⟩|⟨tg',kt,vt,es,e,ho,he⟩
  ·cases e
  ·cases e;rw[he]at h2;simp only[ae,al h2,al (hl.ob ho),Option.map_some]
  ·cases e;rw[he]at h2;simp only[ae,sm h2,sm (hl.obc ho),Option.map_some]
  ·cases e;rw[he]at h2;simp only[ae,z4 h2,z4 (hl.obm ho),Option.map_some]
 ·obtain⟨hs,xi,h1,h2⟩:=hat i _ hi;rcases Hs.dec_cases h1 with⟨_,ty,md,its,t,_,he⟩|⟨tg',ty,md,md',its,t,xs,e,_⟩|⟨tg',ty,sz,n,m,cs,x,e,_⟩|⟨tg',kt,vt,es,e,_⟩
  ·rw[he]at h2;exact⟨t.sz,by simp only[ae,al h2,Option.map_some];rfl⟩
  ·cases e
  ·cases e
  ·cases e
 ·obtain⟨hs,xi,h1,h2⟩:=hat i _ hi;rcases Hs.dec_cases h1 with⟨e,_⟩|⟨tg',ty,md,md',its,t,xs,e,ho,hm,he⟩|⟨tg',ty,sz,n,m,cs,x,e,ho,_,_,he⟩|⟨tg',kt,vt,es,e,ho,he⟩
  ·cases e
  ·cases e;rw[he]at h2;simp only[ae]at hq⊢;rw[qnx hl ho h2 hm j f];exact hq
  ·cases e;simp only[ae,vw,hl.obc ho,vwR,Option.map_none]at hq;cases hq
  ·cases e;simp only[ae,vw,hl.obm ho,vwR,Option.map_none]at hq;cases hq
theorem qwm(hr:HR U w0 σ0 K (vw H) w σ)(hok:qa6 ρ=true):∀T T' g o o',m8 ρ σ T=some (g,o)→m8 ρ σ T' =some (g,o')→T=T' :=by
 intro T T' g o o' h1 h2;obtain⟨tg,e1,e2⟩:=sy h1;obtain⟨tg',e3,e4⟩:=sy h2;have e:=hr.inj _ _ _ _ _ e2 e4;have et:tg=tg' :=by have:=congrArg TG.ob e;simpa only[TG.at_ob]using this
 subst et;exact TG.at_inj e (qgq hok e1 e3)
theorem qwl(hr:HR U w0 σ0 K (vw H) w σ)(hl:HLe (fun _=>False) Hv H)(hy:zb bo ρ Hv ρ l=some y):∀T p,m8 ρ σ T=some p→∃v,vw (ez l y) T=some v:=by
 intro T p hp;obtain⟨tg,e1,e2⟩:=sy hp;obtain⟨v,hv⟩:=hr.dom _ _ e2;obtain⟨hs,xi,h1,h2⟩:=(qei ρ l y hy).2.2 _ _ e1;rcases Hs.dec_cases h1 with⟨e,_⟩|⟨tg',ty,md,md',its,t,xs,e,ho,hm,he⟩|⟨tg',ty,sz,n,m,cs,x,e,ho,_,_,he⟩|⟨tg',kt,vt,es,e,ho,he⟩
 ·cases e
 ·cases e;rw[he]at h2;cases T with
  |o i=>exact⟨_,al h2⟩
  |r i j f=>exact⟨v,(qnx hl ho (i:=i) h2 hm j f).trans hv⟩
 ·cases e;rw[he]at h2;cases T with
  |o i=>exact⟨_,sm h2⟩
  |r i j f=>
   simp only[TG.at,vw,hl.obc ho,vwR]at hv;cases hv
 ·cases e;rw[he]at h2;cases T with
  |o i=>exact⟨_,z4 h2⟩
  |r i j f=>
   simp only[TG.at,vw,hl.obm ho,vwR]at hv;cases hv
theorem qwn(h:Cv U U' w0 σ0 K H Hv (ez l y) w σ ρ bo)(hy:zb bo ρ Hv ρ l=some y):∀T v,vw (ez l y) T=some v→OR (gr U' (vw (ez l y)) w (m8 ρ σ)) (m8 ρ σ T) v:=by
 intro T v hv;obtain⟨hlen,hlen',hat⟩:=qei ρ l y hy;have hlt:T.ob<(ez l y).length:=by
  cases T with
  |o i=>
   simp only[vw]at hv;rcases Nat.lt_or_ge i (ez l y).length with h1|h1
   ·exact h1
   ·rw[List.getElem?_eq_none h1]at hv;cases hv
  |r i j f=>
   simp only[vw]at hv;rcases Nat.lt_or_ge i (ez l y).length with h1|h1
   ·exact h1
   ·rw[List.getElem?_eq_none h1]at hv;cases hv
 have hρ:ρ[T.ob]? =some ρ[T.ob]:=List.getElem?_eq_getElem (by omega);obtain⟨hs,xi,h1,h2⟩:=hat _ _ hρ;rcases Hs.dec_cases h1 with⟨e,ty,md,its,t,hm,he⟩|⟨tg,ty,md,md',its,t,xs,e,ho,hm,he⟩|⟨tg,ty,sz,n,m,cs,x,e,ho,hd,hn0,he⟩|⟨tg,kt,vt,es,e,ho,he⟩
 ·rw[e]at hρ;have:m8 ρ σ T=none:=by simp only[m8,hρ]
  rw[this];rw[he]at h2;cases T with
  |o i=>
   have h2:(ez l y)[i]? =_:=h2;rw[al h2]at hv;cases hv;rfl
  |r i j f=>
   have h2:(ez l y)[i]? =_:=h2;rw[kf h2,if_neg (by simp)]at hv;cases hv
 ·rw[e]at hρ;rw[ul hρ];rw[he]at h2;have ho' :=h.le.ob ho;cases T with
  |o i=>
   have h2:(ez l y)[i]? =_:=h2;rw[al h2]at hv;cases hv;have hob:=h.hr.obj _ _ (al ho');show OR _ (σ (.o tg)) _;cases hp:σ (.o tg)with
   |none=>rw[hp]at hob;exact hob
   |some p=>
    rw[hp]at hob;obtain⟨g,o⟩:=p;rcases hob with⟨hp0,cur,c,h3,h4,h5,h6⟩|⟨h3,h4,es,k,hh,hmo⟩
    rotate_left
    ·exact .inr ⟨h3,h4,es,k,hh,hmo.sb (θ:=fun _=> .id) fun i f=>qrw (A:=bg tg md' t xs i f) (B:=bg _ md t xs i f) (u7 h3) (u7 h3)⟩
    refine .inl ⟨hp0,cur,c,h3,h4,h5,fun j f hj hf=> ?_⟩;obtain⟨u,hu,h7,hV⟩:=h6 j f hj hf;refine⟨u,hu,h7,?_⟩;simp only[]at hV hf hj⊢;cases md with
    |fz fr=>
     cases md' with
     |fz fr' =>
      rw[kw]at hV⊢;have hC:=(Ty.C_iff (gr U (vw H) w σ) fr' t _ f u hf).2 hV;refine(Ty.C_iff (gr U' (vw (ez l y)) w (m8 ρ σ)) fr t _ f u hf).1 (Ty.C_low (w:=w) (w' :=w) ⟨Nat.le_refl _,fun b hb hY hY' =>(h.low fr).ex b hb (fun hY2=>hY ?_) hY',fun _ _ _=>rfl⟩ t _ f u hC);rcases hY2 with e|⟨e1,e2⟩
      ·exact .inl e
      ·exact .inr ⟨qeh hm e1,e2⟩
     |_=>simp[qps]at hm
    |own=>
     cases md' with
     |own=>
      unfold bg at hV⊢;simp only[Md.fr]at hV⊢;split at hV
      ·rename_i fr0 v0 ys0 hc;obtain⟨n0,sz0,hI,hs0⟩:=hV;have hk:=qnx h.le ho h2 hm j f;refine⟨n0,sz0,?_,?_⟩
       ·show ae (vw (ez l y)) _=_;simp only[ae,TG.ob]at hk⊢;rw[hk];exact hI
       ·rcases hs0 with hs0|⟨g1,o1,c1,cur1,e1,hσ1,r1⟩
        ·exact .inl hs0
        ·exact .inr ⟨g1,o1,c1,cur1,e1,(ul (T:= .r i j f) hρ).trans hσ1,r1⟩
      ·rename_i hns;have hform:=Ty.cells_form true t (xs.getD j t.dft);have hmem:(t.cells true (xs.getD j t.dft)).getD f .any∈t.cells true (xs.getD j t.dft):=by
        have hlt2:f<(t.cells true (xs.getD j t.dft)).length:=by rw[Ty.cells_len];exact hf
        generalize t.cells true (xs.getD j t.dft)=L at hlt2;rw[List.getD_eq_getElem?_getD,List.getElem?_eq_getElem hlt2];exact List.getElem_mem _
       have hf1:=hform _ hmem;generalize(t.cells true (xs.getD j t.dft)).getD f .any=A at hns hV hf1;cases A with
       |int k n=>exact hV
       |bool b=>exact hV
       |val u=>exact hV
       |sl fr0 t0 xs0=>exact absurd rfl (hns fr0 t0 xs0)
       |_=>simp[qt]at hf1
     |_=>simp[qps]at hm
    |hole i0 f0=>cases md' <;>simp[qps]at hm
    |swap i0 j0=>cases md' <;>simp[qps]at hm
  |r i j f=>
   have h2:(ez l y)[i]? =_:=h2;have hk:=qnx h.le ho h2 hm j f;rw[hk]at hv;have hob:=h.hr.obj _ _ hv;show OR _ (σ (.r tg j f)) _;cases hp:σ (.r tg j f)with
   |none=>rw[hp]at hob;exact hob
   |some p=>
    rw[hp]at hob;obtain⟨g,o⟩:=p;rcases hob with⟨hp0,cur,c,h3,h4,h5,h6⟩|⟨h3,h4,es,k,hh,hmo⟩
    rotate_left
    ·exact .inr ⟨h3,h4,es,k,hh,hmo⟩
    refine .inl ⟨hp0,cur,c,h3,h4,h5,fun j' f' hj hf=> ?_⟩;obtain⟨u,hu,h7,hV⟩:=h6 j' f' hj hf;refine⟨u,hu,h7,?_⟩;rw[kf ho']at hv;split at hv
    ·cases hin:dk t (xs.getD j t.dft) f with
     |none=>rw[hin]at hv;cases hv
     |some z=>
      obtain⟨v0,ys0⟩:=z;rw[hin]at hv;cases hv;have hC:=(Ty.C_iff (gr U (vw H) w σ) true v0 _ f' u hf).2 hV;exact(Ty.C_iff (gr U' (vw (ez l y)) w (m8 ρ σ)) true v0 _ f' u hf).1 (Ty.C_low (h.low true) v0 _ f' u hC)
    ·cases hv
 ·rw[e]at hρ;rw[ul hρ];rw[he]at h2;have ho' :=h.le.obc ho;cases T with
  |o i=>
   have h2:(ez l y)[i]? =_:=h2;rw[sm h2]at hv;cases hv;have hob:=h.hr.obj _ _ (sm ho');show OR _ (σ (.o tg)) _;cases hp:σ (.o tg)with
   |none=>rw[hp]at hob;exact hob
   |some p=>
    rw[hp]at hob;obtain⟨g,o⟩:=p;obtain⟨cur,c,h3,h4,h5,h6⟩:=hob.cells (.inr hn0);refine .inl ⟨.inr hn0,cur,c,h3,h4,h5,fun j f hj hf=> ?_⟩;obtain⟨u,hu,h7,hV⟩:=h6 j f hj hf;exact⟨u,hu,h7,ShL.dec_at h m cs x hd _ u hV⟩
  |r i j f=>
   have h2:(ez l y)[i]? =_:=h2;simp only[vw,h2,vwR]at hv;cases hv
 ·rw[e]at hρ;rw[ul hρ];rw[he]at h2;have ho' :=h.le.obm ho;cases T with
  |o i=>
   have h2:(ez l y)[i]? =_:=h2;rw[z4 h2]at hv;cases hv;have hob:=h.hr.obj _ _ (z4 ho');show OR _ (σ (.o tg)) _;cases hp:σ (.o tg)with
   |none=>rfl
   |some p=>
    rw[hp]at hob;obtain⟨g,o⟩:=p;obtain⟨es,k,hh,hmo⟩:=hob.map rfl rfl;exact .inr ⟨rfl,rfl,es,k,hh,hmo⟩
  |r i j f=>
   have h2:(ez l y)[i]? =_:=h2;simp only[vw,h2,vwR]at hv;cases hv
end
end Go.K
namespace Go.K
open Go.M Go.RowKit
section
variable {U : Nat → Prop} {w0 : World} {σ0 : Pl} {K : Nat → Bool} {w : World} {σ : Pl} {ρ : wn}
theorem qm5:∀{kp:List Bool} {t0:Nat} {ρ:wn},qua t0 kp ρ=true→∀t,bc kp t=true→ρ[t0+t]? =some (some (t0+t))
 |[],_,_,_,t,h=>by simp[bc]at h
 |true::kp,t0,ρ,h,t,hk=>by
  simp only[qua,Bool.and_eq_true]at h;cases t with
  |zero=>
   have h1:=h.1;split at h1
   ·rename_i t' e;rw[Nat.add_zero,e,am h1]
   ·cases h1
  |succ t=>
   have:=qm5 h.2 t (by simpa[bc]using hk);rw[show t0+(t+1)=t0+1+t by omega];exact this
 |false::kp,t0,ρ,h,t,hk=>by
  cases t with
  |zero=>simp[bc]at hk
  |succ t=>
   have:=qm5 (kp:=kp) (t0:=t0+1) (ρ:=ρ) h t (by simpa[bc]using hk);rw[show t0+(t+1)=t0+1+t by omega];exact this
theorem q5c{H:List TOb}{l:List Hs}{y:sg l}{kp:List Bool}(hK:∀t,bc kp t=false→K t=false)(hr:HR U w0 σ0 K (vw H) w σ)(hok:qa6 ρ=true)(hkp:qua 0 kp ρ=true)(hy:zb false ρ H ρ l=some y):
  Cv U U w0 σ0 K H H (ez l y) w σ ρ false∧HR U w0 σ0 K (vw (ez l y)) w (m8 ρ σ):=by
 have hcv:Cv U U w0 σ0 K H H (ez l y) w σ ρ false:=qyr hr (HLe.refl H) hok (fun b h=> .inl h) (fun _ b h=>h) hy;refine⟨hcv,qwm hr hok,qwl hr (HLe.refl H) hy,qwn hcv hy,fun T g o hT=> ?_,hr.os,hr.tape,hr.output,hr.size,hr.blk,fun t ht=> ?_,hr.ksz,hr.ulow⟩
 ·obtain⟨tg,_,h2⟩:=sy hT;exact hr.own _ _ _ h2
 ·have hk:bc kp t=true:=by
   cases hb:bc kp t with
   |true=>rfl
   |false=>rw[hK t hb]at ht;cases ht
  have:=qm5 hkp t hk;rw[Nat.zero_add]at this;rw[ul (T:= .o t) this];exact hr.keep t ht
theorem qgn(ρ:List Nat)(σ:Pl):m8 (ρ.map some) σ=qax ρ σ:=by
 funext T;unfold m8 qax;by_cases h:T.ob<ρ.length
 ·rw[if_pos h,List.getElem?_map,List.getElem?_eq_getElem h,List.getD_eq_getElem?_getD,List.getElem?_eq_getElem h];rfl
 ·rw[if_neg h,List.getElem?_map,List.getElem?_eq_none (by omega)];rfl
theorem qro{ρ:List Nat}{t:Nat}:m9 t (ρ.map some)=inL t ρ:=by
 cases h:inL t ρ with
 |true=>rw[qiq]at h;exact yu.2 (List.mem_map.2 ⟨t,h,rfl⟩)
 |false=>
  rw[qek]at h;refine vg.2 fun hm=> ?_
  obtain⟨t',h1,h2⟩:=List.mem_map.1 hm;injection h2 with h2
  subst h2;exact h h1
theorem q2s{H Hv:List TOb}{l:List Hs}{y:sg l}{ρ:List Nat}(K' :Nat→Bool)(hr:HR U w0 σ0 K (vw H) w σ)(hl:HLe (fun _=>False) Hv H)(hok:qa6 (ρ.map some)=true)(hy:zb true (ρ.map some) Hv (ρ.map some) l=some y):
  Cv U (u5 ρ U σ) w0 σ0 K H Hv (ez l y) w σ (ρ.map some) true∧HR (u5 ρ U σ) w (qax ρ σ) K' (vw (ez l y)) w (qax ρ σ):=by
 have hcv:Cv U (u5 ρ U σ) w0 σ0 K H Hv (ez l y) w σ (ρ.map some) true:=qyr hr hl hok (fun b h=>h.imp id fun⟨T,o,h1,_⟩=>⟨T,o,h1⟩) (fun e=>by cases e) hy;refine⟨hcv,?_⟩;have hi:=qwm hr hok;have hd:=qwl hr hl hy;have ho:=qwn hcv hy;rw[qgn]at hi hd ho;refine⟨hi,hd,ho,fun T g o hT=>⟨?_, .inr ⟨T,o,hT⟩⟩,rfl,rfl,rfl,Nat.le_refl _,fun _ _ _=>rfl,fun _ _=>rfl,fun t g o _ _ cur e hc=>⟨cur,hc,rfl⟩,fun b hb=> ?_⟩
 ·rw[←qgn]at hT;obtain⟨tg,h1,h2⟩:=sy hT;rintro(hu|⟨T',o',h3,h4⟩)
  ·exact(hr.own _ _ _ h2).1 hu
  ·have e:=hr.inj _ _ _ _ _ h2 h3;rw[←e,TG.at_ob,←qro]at h4;exact vg.1 h4 (List.mem_of_getElem? h1)
 ·rcases hb with hu|⟨T',o',h3,_⟩
  ·exact Nat.lt_of_lt_of_le (hr.ulow b hu) hr.size
  ·exact hr.lt h3
theorem qp8{bo:Bool}{s:TS}:∀(l:List (Nat×Sh)) (x:qmc l),qs8 bo ρ s l=some x→∀t,bw (z0 l x) t= .any∨∃(sh:Sh) (xi:sh.den),sh.dec bo ρ s.H (bw s.S t)=some xi∧bw (z0 l x) t=sh.enc xi
 |[],x,h,t=> .inl rfl
 |p::l,x,h,t=>by
  unfold qs8 at h;split at h
  ·rename_i x1 hx;split at h
   ·rename_i y hy;cases h;simp only[z0,uz];by_cases e:p.1=t
    ·rw[if_pos e,←e];exact .inr ⟨p.2,x1,hx,rfl⟩
    ·rw[if_neg e];exact qp8 l y hy t
   ·cases h
  ·cases h
end
end Go.K
namespace Go.K
open Go.M Go.RowKit
section
variable {U : Nat → Prop} {w0 : World} {σ0 : Pl} {K : Nat → Bool} {N : Nat}
theorem qsm{s:TS}{a:Act}{w:World}{σ:Pl}(h:ey U w0 σ0 K N s a w σ){t off n:Nat}(hK:K t=false){v:Value}(hV:VR (gr U (vw s.H) w σ) (.ownS (.o t) off n) v){ty:TypeId}{fr:Bool}{its:List TypeId}{u:Ty}{xs:List u.den}(ho:s.H[t]? =some (.arr ty (.fz fr) its u xs))(hpos:0<u.sz):
  ∃σ',ey U w0 σ0 K N ⟨uh (au t) s.S,(cw (au t) s.H).set t (.arr ty (.fz fr) its u ((xs.drop off).take n))⟩ a w σ' ∧VR (gr U (vw ((cw (au t) s.H).set t (.arr ty (.fz fr) its u ((xs.drop off).take n)))) w σ') (.own (.o t)) v∧∀T:TG,¬T.ob=t→σ' T=σ T:=by
 obtain⟨m,sz,hI,hle,hs⟩:=hV;have hI' :ae (vw s.H) (.o t)=some (m,sz):=hI;simp only[ae,al ho,Option.map_some,Option.some.injEq,Prod.mk.injEq]at hI';obtain⟨rfl,rfl⟩:=hI';have hxl:((xs.drop off).take n).length=n:=by simp;omega
 have hlt:t<(cw (au t) s.H).length:=by rw[cq];exact(List.getElem?_eq_some_iff.1 ho).1
 have hat:((cw (au t) s.H).set t (.arr ty (.fz fr) its u ((xs.drop off).take n)))[t]? =some (.arr ty (.fz fr) its u ((xs.drop off).take n)):=List.getElem?_set_self hlt;obtain⟨pl,hpl⟩:∃pl:Option (Nat×Nat),(∀g o,pl=some (g,o)→∃o',σ (.o t)=some (g,o'))∧SlR w (fun T=>if T= .o t then pl else σ T) (.o t) u.sz 0 n v∧
   (pl=none→n=0)∧∀g o,pl=some (g,o)→∃o',σ (.o t)=some (g,o')∧o=o' +off*u.sz∧∃c cur,w.heap[g]? =some (.cells cur ty (0,0))∧cur.size=o+c*u.sz∧n≤c:=by
  rcases hs with⟨b,rfl,rfl⟩|⟨g,o,c,cur,e,hσ,rfl,hnc,hcm,hh,hsz⟩
  ·exact⟨none,(fun g o e=>by cases e), .inl ⟨b,rfl,rfl⟩,fun _=>rfl,(fun g o e=>by cases e)⟩
  ·have hσ' :σ (.o t)=some (g,o):=hσ;have hob:=h.hr.obj _ _ (al ho);rw[hσ']at hob;obtain⟨cur',c',h1,_⟩:=hob.cells (.inl hpos);have hh' :w.heap[g]? =some (.cells cur e (0,0)):=hh;have h1' :w.heap[g]? =some (.cells cur' ty (0,0)):=h1;have e1:cur=cur' ∧e=ty:=by rw[hh']at h1';simp only[Option.some.injEq,Obj.cells.injEq]at h1';exact⟨h1'.1,h1'.2.1⟩
   obtain⟨rfl,rfl⟩:=e1;have hsz' :cur.size=o+off*u.sz+c*u.sz:=by rw[hsz,Nat.add_mul];omega
   refine⟨some (g,o+off*u.sz),(fun g' o' e=>by cases e;exact⟨o,hσ'⟩), .inr ⟨g,o+off*u.sz,c,cur,e,by simp,by simp,hnc,hcm,hh,by rw[hsz'];simp⟩,(fun e=>by cases e),fun g' o' e=> ?_⟩;cases e;exact⟨o,hσ',rfl,c,cur,hh',hsz',hnc⟩
 obtain⟨hpl1,hpl2,hpl3,hpl4⟩:=hpl;let σ' :Pl:=fun T=>if T= .o t then pl else σ T
 have hrow:∀i f,vw s.H (.r t i f)=none:=fun i f=>by rw[kf ho,if_neg (by simp[Md.isOwn])]
 have hσr:∀i f,σ (.r t i f)=none:=by
  intro i f;cases hq:σ (.r t i f)with
  |none=>rfl
  |some q=>obtain⟨v0,hv0⟩:=h.hr.dom _ _ hq;rw[hrow]at hv0;cases hv0
 have hVn:∀T:TG,¬T.ob=t→vw ((cw (au t) s.H).set t (.arr ty (.fz fr) its u ((xs.drop off).take n))) T=(vw s.H T).map (Vw.sb (au t)):=fun T hT=>by
  rw[fo hT];exact qfs fun i f=>rfl
 have hσn:∀T:TG,¬T.ob=t→σ' T=σ T:=fun T hT=>if_neg fun e=>hT (by rw[e];rfl)
 have hown:∀T g o,T.ob=t→σ' T=some (g,o)→(∃T0 o0,σ T0=some (g,o0))∨w.heap.size≤g:=by
  intro T g o hT hg;cases T with
  |o t' =>
   simp only[TG.ob]at hT;subst hT;simp only[σ',if_true]at hg;obtain⟨o',h1⟩:=hpl1 g o hg;exact .inl ⟨_,o',h1⟩
  |r t' i f=>
   simp only[TG.ob]at hT;subst hT;simp only[σ',reduceCtorEq,if_false]at hg;rw[hσr]at hg;cases hg
 have hm:Mv (au t) (gr U (vw s.H) w σ) (gr U (vw ((cw (au t) s.H).set t (.arr ty (.fz fr) its u ((xs.drop off).take n)))) w σ'):=by
  refine Mv.upd h.hr (fun t' =>t' =t) (Nat.le_refl _) hVn hσn (fun _ _ _ _ _=>rfl) (fun _ _ _=>rfl) hown (fun T q hT T' e=> ?_) (fun T T' q hT ht hq=> ?_) (fun T fr u xs q e=> ?_)
  ·cases T with
   |o t' =>simp only[au]at e;cases hb:Nat.beq t' t<;>rw[hb]at e<;>cases e
   |r t' i f=>simp only[au]at e;cases e
  ·cases T with
   |o t' =>
    simp only[TG.ob]at hT;subst hT;simp only[au,Nat.beq_refl,cond_true,reduceCtorEq,false_and,or_self]at ht
   |r t' i f=>
    simp only[TG.ob]at hT;subst hT;simp only[ae,hrow]at hq;cases hq
  ·cases T with
   |o t' =>simp only[au]at e;cases hb:Nat.beq t' t<;>rw[hb]at e<;>cases e
   |r t' i f=>simp only[au]at e;cases e
 have hr' :ey U w0 σ0 K N ⟨uh (au t) s.S,(cw (au t) s.H).set t (.arr ty (.fz fr) its u ((xs.drop off).take n))⟩ a w σ' :=by
  refine ARel.go h hm (fun t' =>gv _ _ _) (h.hr.upd (fun t' =>t' =t) hm hVn hσn (fun _ _ _ _ _=>rfl) (fun T v0 hT hv0=> ?_) (fun T q hT hq=> ?_) hown (fun T T' g o o' h1 h2=> ?_) rfl rfl rfl (fun t' ht' e=>by subst e;rw[hK]at ht';cases ht') (fun t' g o ht' e=>by subst e;rw[hK]at ht';cases ht'))
  ·cases T with
   |r t' i f=>
    simp only[TG.ob]at hT;subst hT;rw[kf hat,if_neg (by simp[Md.isOwn])]at hv0;cases hv0
   |o t' =>
    simp only[TG.ob]at hT;subst hT;rw[al hat]at hv0;cases hv0;have e0:σ' (.o t')=pl:=if_pos rfl;cases hq:pl with
    |none=>
     rw[e0,hq];show((xs.drop off).take n).length=0;rw[hxl];exact hpl3 hq
    |some q=>
     obtain⟨g,o⟩:=q;rw[e0,hq];obtain⟨o',h1,h2,c,cur,h3,h4,h5⟩:=hpl4 g o hq;have hob:=h.hr.obj _ _ (al ho);rw[h1]at hob;obtain⟨cur',c',k1,k2,k3,k4⟩:=hob.cells (.inl hpos);have k1' :w.heap[g]? =some (.cells cur' ty (0,0)):=k1;rw[h3]at k1';simp only[Option.some.injEq,Obj.cells.injEq]at k1';obtain⟨rfl,_⟩:=k1';refine .inl ⟨.inl hpos,cur,c,h3,h4,by rw[hxl];exact h5,fun i f hi hf=> ?_⟩;have hi:i<n:=Nat.lt_of_lt_of_eq hi hxl;obtain⟨y,hy,k5,hVy⟩:=k4 (off+i) f (by simp only[];omega) hf;refine⟨y,?_,k5,?_⟩
     ·rw[←hy,h2,Nat.add_mul];congr 1;simp only[];omega
     ·simp only[kw]at hVy⊢;have e:((xs.drop off).take n).getD i u.dft=xs.getD (off+i) u.dft:=by
       simp only[List.getD_eq_getElem?_getD,List.getElem?_take,if_pos hi,List.getElem?_drop]
      rw[e];have h9:=VR.mv hm _ y hVy;rw[Ty.cells_sb]at h9;exact h9
  ·cases T with
   |r t' i f=>
    simp only[TG.ob]at hT;subst hT;simp only[σ',reduceCtorEq,if_false]at hq;rw[hσr]at hq;cases hq
   |o t' =>
    simp only[TG.ob]at hT;subst hT;exact⟨_,al hat⟩
  ·have key:∀T g o,σ' T=some (g,o)→∃o',σ T=some (g,o'):=by
    intro T g o hT;by_cases e:T= .o t
    ·subst e;simp only[σ',if_true]at hT;exact hpl1 g o hT
    ·simp only[σ',if_neg e]at hT;exact⟨o,hT⟩
   obtain⟨o1,h3⟩:=key T g o h1;obtain⟨o2,h4⟩:=key T' g o' h2;exact h.hr.inj _ _ _ _ _ h3 h4
 have hV' :VR (gr U (vw ((cw (au t) s.H).set t (.arr ty (.fz fr) its u ((xs.drop off).take n)))) w σ') (.own (.o t)) v:=⟨n,u.sz,by simp only[gr,ae,al hat,Option.map_some,hxl],hpl2⟩;exact⟨σ',hr',hV',hσn⟩
theorem q0s{s:TS}{a:Act}{w:World}{σ:Pl}(h:ey U w0 σ0 K N s a w σ){p t off n:Nat}(hp:p<N)(hK:K t=false)(hv:bw s.S p= .ownS (.o t) off n){ty:TypeId}{fr:Bool}{its:List TypeId}{u:Ty}{xs:List u.den}(ho:s.H[t]? =some (.arr ty (.fz fr) its u xs))(hpos:0<u.sz):
  ∃σ',ey U w0 σ0 K N ⟨(p, .own (.o t))::uh (au t) s.S,(cw (au t) s.H).set t (.arr ty (.fz fr) its u ((xs.drop off).take n))⟩ a w σ' :=by
 obtain⟨v,hav,hV⟩:=h.slot p hp;rw[hv]at hV;obtain⟨σ',hr',hV',_⟩:=qsm h hK hV ho hpos;refine⟨σ',hr'.defers,hr'.len,fun t' ht' => ?_,hr'.hr⟩;simp only[uz];by_cases e:p=t'
 ·subst e;rw[if_pos rfl];exact⟨v,hav,hV'⟩
 ·rw[if_neg e];exact hr'.slot t' ht'
theorem HR.cell{H:List TOb}{w:World}{σ:Pl}(h:HR U w0 σ0 K (vw H) w σ){tb:Nat}{ty:TypeId}{sz:Nat}{cs:List TV}(ho:H[tb]? =some (.cs ty sz 1 cs)){j:Nat}(hj:j<sz){A:TV}
  (hA:∀g o cur e x,σ (.o tb)=some (g,o)→w.heap[g]? =some (.cells cur e (0,0))→cur[o+j]? =some x→VR (gr U (vw H) w σ) A x):HR U w0 σ0 K (vw (H.set tb (.cs ty sz 1 (cs.set j A)))) w σ:=by
 have hlt:tb<H.length:=(List.getElem?_eq_some_iff.1 ho).1;have hat:(H.set tb (.cs ty sz 1 (cs.set j A)))[tb]? =some (.cs ty sz 1 (cs.set j A)):=List.getElem?_set_self hlt;have hne:∀T:TG,¬T.ob=tb→vw (H.set tb (.cs ty sz 1 (cs.set j A))) T=vw H T:=fun T hT=>fo hT
 have hro:∀i f,vw H (.r tb i f)=none:=fun i f=>by simp[vw,ho,vwR]
 have hro' :∀i f,vw (H.set tb (.cs ty sz 1 (cs.set j A))) (.r tb i f)=none:=fun i f=>by simp only[vw,hat,vwR]
 have hO:vw H (.o tb)=some ⟨ty,sz,1,fun i f=>cs.getD (i*sz+f) .any⟩:=by simp[vw,ho,vwO]
 have hO' :vw (H.set tb (.cs ty sz 1 (cs.set j A))) (.o tb)=some ⟨ty,sz,1,fun i f=>(cs.set j A).getD (i*sz+f) .any⟩:=by simp only[vw,hat,vwO]
 have hinfo:ae (vw (H.set tb (.cs ty sz 1 (cs.set j A))))=ae (vw H):=by
  funext T;by_cases e:T.ob=tb
  ·cases T with
   |o t=>simp only[TG.ob]at e;subst e;simp only[ae,hO,hO',Option.map_some]
   |r t i f=>simp only[TG.ob]at e;subst e;simp only[ae,hro,hro']
  ·simp only[ae,hne T e]
 have hgr:gr U (vw (H.set tb (.cs ty sz 1 (cs.set j A)))) w σ=gr U (vw H) w σ:=by simp only[gr,hinfo]
 refine⟨h.inj,fun T p hp=> ?_,fun T v hv=> ?_,h.own,h.os,h.tape,h.output,h.size,h.blk,h.keep,h.ksz,h.ulow⟩
 ·obtain⟨v,hv⟩:=h.dom T p hp;by_cases e:T.ob=tb
  ·cases T with
   |o t=>simp only[TG.ob]at e;subst e;exact⟨_,hO'⟩
   |r t i f=>simp only[TG.ob]at e;subst e;rw[hro]at hv;cases hv
  ·exact⟨v,by rw[hne T e];exact hv⟩
 ·rw[hgr];by_cases e:T.ob=tb
  ·cases T with
   |r t i f=>simp only[TG.ob]at e;subst e;rw[hro']at hv;cases hv
   |o t=>
    simp only[TG.ob]at e;subst e;rw[hO']at hv;cases hv;have h0:=h.obj _ _ hO;cases hs:σ (.o t)with
    |none=>rw[hs]at h0;exact h0
    |some q=>
     obtain⟨g,o⟩:=q;rw[hs]at h0;obtain⟨cur,c,k1,k2,k3,k4⟩:=h0.cells (.inr Nat.one_pos);refine .inl ⟨.inr Nat.one_pos,cur,c,k1,k2,k3,fun i f hi hf=> ?_⟩;have hi0:i=0:=by simp only at hi;omega
     subst hi0;obtain⟨x,hx,k5,hVx⟩:=k4 0 f (by simp) hf;refine⟨x,hx,k5,?_⟩;simp only[Nat.zero_mul,Nat.zero_add]at hx hVx⊢;by_cases ef:f=j
     ·subst ef;by_cases hl:f<cs.length
      ·rw[List.getD_eq_getElem?_getD,List.getElem?_set_self hl];exact hA g o cur ty x hs k1 hx
      ·rw[List.getD_eq_getElem?_getD,List.getElem?_eq_none (by simp;omega)]
       trivial
     ·rw[List.getD_eq_getElem?_getD,List.getElem?_set_ne (Ne.symm ef),←List.getD_eq_getElem?_getD];exact hVx
  ·rw[hne T e]at hv;exact h.obj T v hv
theorem qxo{kp:List Bool}(hK:∀t,bc kp t=false→K t=false){s:TS}{a:Act}{w:World}{σ:Pl}(h:ey U w0 σ0 K N s a w σ)(tb j:Nat):∃σ',ey U w0 σ0 K N (q0q kp tb j s) a w σ' :=by
 unfold q0q;split
 ·rename_i ty sz n cs hb;split
  ·rename_i t off m hv;split
   ·rename_i ty2 fr its u xs ho;cases hc:(!bc kp t&&Nat.beq n 1&&Nat.blt j sz&& !Nat.beq t tb&&Nat.blt 0 u.sz)with
    |false=>exact⟨σ,h⟩
    |true=>
     simp only[Bool.and_eq_true,Bool.not_eq_true']at hc;obtain⟨⟨⟨⟨c1,c2⟩,c3⟩,c4⟩,c5⟩:=hc;have hn:=am c2;subst hn;have hj:=ec c3;have htb:¬tb=t:=fun e=>by subst e;rw[Nat.beq_refl]at c4;cases c4
     have hO:vw s.H (.o tb)=some ⟨ty,sz,1,fun i f=>cs.getD (i*sz+f) .any⟩:=by simp[vw,hb,vwO]
     have h0:=h.hr.obj _ _ hO;cases hs:σ (.o tb)with
     |none=>rw[hs]at h0;cases h0
     |some q=>
      obtain⟨g,o⟩:=q;rw[hs]at h0;obtain⟨cur,c,k1,k2,k3,k4⟩:=h0.cells (.inr Nat.one_pos);obtain⟨x,hx,k5,hVx⟩:=k4 0 j (by simp) hj;simp only[Nat.zero_mul,Nat.zero_add]at hx hVx;rw[hv]at hVx;obtain⟨σ',hr',hV',hσ'⟩:=qsm h (hK t c1) hVx ho (ec c5);have hb' :((cw (au t) s.H).set t (.arr ty2 (.fz fr) its u ((xs.drop off).take m)))[tb]? =some (.cs ty sz 1 (TV.sbL (au t) cs)):=by
       rw[List.getElem?_set_ne (Ne.symm htb),gq,hb];rfl
      refine⟨σ',?_⟩;have hh:=HR.cell hr'.hr hb' hj (A:= .own (.o t)) (fun g' o' cur' e x' e1 e2 e3=>by
       rw[hσ' (.o tb) htb,hs]at e1;cases e1;have k1' :w.heap[g]? =some (.cells cur ty (0,0)):=k1;rw[k1']at e2;simp only[Option.some.injEq,Obj.cells.injEq]at e2;obtain⟨rfl,_⟩:=e2;rw[hx]at e3;cases e3;exact hV')
      have hgr:gr U (vw (((cw (au t) s.H).set t (.arr ty2 (.fz fr) its u ((xs.drop off).take m))).set tb (.cs ty sz 1 ((TV.sbL (au t) cs).set j (.own (.o t)))))) w σ' =gr U (vw ((cw (au t) s.H).set t (.arr ty2 (.fz fr) its u ((xs.drop off).take m)))) w σ' :=by
       have hlt:tb<((cw (au t) s.H).set t (.arr ty2 (.fz fr) its u ((xs.drop off).take m))).length:=(List.getElem?_eq_some_iff.1 hb').1;simp only[gr,Gr.mk.injEq,true_and];funext T;by_cases e:T.ob=tb
       ·cases T with
        |o t' =>simp only[TG.ob]at e;subst e;simp only[ae,vw,List.getElem?_set_self hlt,hb',vwO,Option.map_some]
        |r t' i f=>simp only[TG.ob]at e;subst e;simp only[ae,vw,List.getElem?_set_self hlt,hb',vwR]
       ·simp only[ae,fo e]
      refine⟨hr'.defers,hr'.len,fun t' ht' => ?_,hh⟩;obtain⟨y,hy,hVy⟩:=hr'.slot t' ht';refine⟨y,hy,?_⟩;simp only[cond_true];rw[hgr];exact hVy
   ·exact⟨σ,h⟩
  ·exact⟨σ,h⟩
 ·exact⟨σ,h⟩
theorem qi6{kp:List Bool}(hK:∀t,bc kp t=false→K t=false){a:Act}{w:World}(tb:Nat):∀(l:List TV) (j:Nat) {s:TS} {σ:Pl},ey U w0 σ0 K N s a w σ→∃σ',ey U w0 σ0 K N (qsk kp tb j l s) a w σ'
 |[],j,s,σ,h=>⟨σ,h⟩
 |v::l,j,s,σ,h=>by
  unfold qsk;cases qv2 v with
  |true=>obtain⟨σ1,h1⟩:=qxo hK h tb j;exact qi6 hK tb l (j+1) h1
  |false=>exact qi6 hK tb l (j+1) h
theorem qad{kp:List Bool}(hK:∀t,bc kp t=false→K t=false){a:Act}{w:World}:∀(l:List TOb) (tb:Nat) {s:TS} {σ:Pl},ey U w0 σ0 K N s a w σ→∃σ',ey U w0 σ0 K N (qsl kp tb l s) a w σ'
 |[],tb,s,σ,h=>⟨σ,h⟩
 | .cs _ _ _ cs::l,tb,s,σ,h=>by
  obtain⟨σ1,h1⟩:=qi6 hK tb cs 0 h;exact qad hK l (tb+1) h1
 | .arr _ _ _ _ _::l,tb,s,σ,h=>qad hK l (tb+1) h
 | .mp _ _ _::l,tb,s,σ,h=>qad hK l (tb+1) h
 | .gone::l,tb,s,σ,h=>qad hK l (tb+1) h
theorem qxp{kp:List Bool}(hK:∀t,bc kp t=false→K t=false){s:TS}{a:Act}{w:World}{σ:Pl}(h:ey U w0 σ0 K N s a w σ)(p:Nat):∃σ',ey U w0 σ0 K N (q0r N kp p s) a w σ' :=by
 unfold q0r;split
 ·rename_i t off n hv;split
  ·rename_i ty fr its u xs ho;cases hb:(!bc kp t&&Nat.blt p N&&Nat.blt 0 u.sz)with
   |false=>exact⟨σ,h⟩
   |true=>
    simp only[Bool.and_eq_true,Bool.not_eq_true']at hb;exact q0s h (ec hb.1.2) (hK t hb.1.1) hv ho (ec hb.2)
  ·exact⟨σ,h⟩
 ·exact⟨σ,h⟩
theorem rl{kp:List Bool}(hK:∀t,bc kp t=false→K t=false){a:Act}{w:World}:∀(l:List (Nat×Sh)) {s:TS} {σ:Pl},ey U w0 σ0 K N s a w σ→∃σ',ey U w0 σ0 K N (qvi N kp l s) a w σ'
 |[],s,σ,h=>⟨σ,h⟩
 |(p, .own i)::l,s,σ,h=>by
  obtain⟨σ1,h1⟩:=qxp hK h p;exact rl hK l h1
 |(p, .d _ _)::l,s,σ,h=>rl hK l h
 |(p, .rp _ _)::l,s,σ,h=>rl hK l h
 |(p, .kid _ _)::l,s,σ,h=>rl hK l h
 |(p, .ptr _)::l,s,σ,h=>rl hK l h
 |(p, .mp _)::l,s,σ,h=>rl hK l h
 |(p, .e)::l,s,σ,h=>rl hK l h
 |(p, .fn _ _)::l,s,σ,h=>rl hK l h
 |(p, .agg _)::l,s,σ,h=>rl hK l h
 |(p, .nl _ _)::l,s,σ,h=>rl hK l h
theorem Shp.dec_ok{kp:List Bool}(hK:∀t,bc kp t=false→K t=false){h:Shp}{s:TS}{x:h.den}(hd:h.dec N kp s=some x){a:Act}{w:World}{σ:Pl}(hr:ey U w0 σ0 K N s a w σ):∃σ',ey U w0 σ0 K N (h.enc x) a w σ' :=by
 unfold Shp.dec at hd;obtain⟨hkp,hd⟩:=ag hd;obtain⟨σ00,hr0⟩:=rl hK h.sl hr;obtain⟨σ1,hr1⟩:∃σ1,ey U w0 σ0 K N (qty N kp h s) a w σ1:=by
  unfold qty;cases qvx h.hp with
  |true=>exact qad hK s.H 0 hr0
  |false=>exact⟨σ00,hr0⟩
 generalize hs1:qty N kp h s=s1 at*;generalize h.rho kp s1=ρ at*;unfold Shp.decR at hd;obtain⟨hok,hd⟩:=ag hd;split at hd
 ·rename_i xs hxs;split at hd
  ·rename_i y hy;cases hd;obtain⟨hcv,hHR⟩:=q5c hK hr1.hr hok hkp hy;refine⟨m8 ρ σ1,hr1.defers,hr1.len,fun t ht=> ?_,hHR⟩;obtain⟨v,hv,hV⟩:=hr1.slot t ht;refine⟨v,hv,?_⟩;rcases qp8 h.sl xs hxs t with e|⟨sh,xi,e1,e2⟩
   ·show VR _ (bw (z0 h.sl xs) t) v;rw[e]
    trivial
   ·show VR _ (bw (z0 h.sl xs) t) v;rw[e2];exact Sh.dec_ok hcv sh _ xi e1 v hV
  ·cases hd
 ·cases hd
end
end Go.K
namespace Go.K
open Go.M Go.RowKit
section
variable {P : Program} {Rf : Type}
def cu(Rf:Type)(N:Nat)(kp:List Bool)(shI:Shp){C S:Type}(un:shI.den→C×S)(shE:Shp){CE E:Type}(mkE:CE→E→shE.den)(pE:C→CE)
  (stepK:{R:Type}→C→S→(S→Option R)→(E→Option R)→(Rf→Option R)→Option R):Summ Rf where
 A:=C×S
 O:=E⊕Rf
 dec:=fun s=>match shI.dec N kp s with|some x=>some (un x)|none=>none
 m:=fun x=>fh (fun a=>stepK x.1 a (fun a' =>some (.next a')) (fun e=>some (.done e)) (fun r=>some (.ret r))) x.2
 cont:=fun x o kn _ kr=>lk o (fun e=>kn (shE.enc (mkE (pE x.1) e))) kr
variable {U : Nat → Prop} {w0 : World} {σ0 : Pl} {K : Nat → Bool} {N : Nat}
theorem qx5{X:Ctx Rf}(hX:CtxOK P X)(hmix:P.follows .mixedOrders=true){n id:Nat}{body:Code}{ann:Ann}(hs:∀p∈qp body ann,ct P X p.1 p.2)
  {shI shE:Shp} {C S CE E:Type} {un:shI.den→C×S} {mk:C→S→shI.den} {unE:shE.den→CE×E} {mkE:CE→E→shE.den} {pE:C→CE}
  {stepK:{R:Type}→C→S→(S→Option R)→(E→Option R)→(Rf→Option R)→Option R}
  (hΛ:X.Λ n=some (cu Rf X.N X.kp shI un shE mkE pE stepK)) (hmk:∀x,mk (un x).1 (un x).2=x) (hmkE:∀y,mkE (unE y).1 (unE y).2=y)
  (hpar:∀(R:Type) (K:C→S→Option R) (D:CE→E→Option R) (T:Rf→Option R) (c:C) (a:S),
   den X body ann (shI.enc (mk c a)) (fun s' =>match shI.dec X.N X.kp s' with|some x=>K (un x).1 (un x).2|none=>none)
    (fun id' s' =>bif Nat.beq id' id then(match shE.dec X.N X.kp s' with|some y=>D (unE y).1 (unE y).2|none=>none)else none) T=stepK c a (K c) (D (pE c)) T):
  ct P X n (.block id (.loop body)):=by
 intro σ hσ;rw[hΛ]at hσ;cases hσ;intro U w0 σ0 K hK R s x o kn ke kr r hdec hm hcont;obtain⟨c,a0⟩:=x;simp only[cu]at hdec hm hcont;cases hx:shI.dec X.N X.kp s with
 |none=>rw[hx]at hdec;cases hdec
 |some x=>
  rw[hx]at hdec;simp only[Option.some.injEq]at hdec;have hxe:x=mk c a0:=by
   have e:=hmk x;rw[hdec]at e;exact e.symm
  intro av w σ hr;obtain⟨σ1,hr1⟩:=Shp.dec_ok hK hx hr;rw[hxe]at hr1;have hround:∀p:Nat×S,qm3 (fun a=>stepK c a (fun a' =>some (.next a')) (fun e=>some (.done e)) (fun r=>some (.ret r))) p.1 p.2=some o→∀a w σ,ey U w0 σ0 K X.N (shI.enc (mk c p.2)) a w σ→
    body.wp P (fun e a' w' =>match e with
     | .normal=>∃(j:Nat×S) (σ' :Pl),qm3 (fun a=>stepK c a (fun a' =>some (.next a')) (fun e=>some (.done e)) (fun r=>some (.ret r))) j.1 j.2=some o∧j.1<p.1∧ey U w0 σ0 K X.N (shI.enc (mk c j.2)) a' w' σ'
     |e=>∃s' σ',ey U w0 σ0 K X.N s' a' w' σ' ∧(match e with| .exit id' =>id' =id∧kn s' =some r| .ret=>∃x,X.res s' =some x∧kr x=some r|_=>False)) a w:=by
   rintro⟨k,a⟩ hp aa ww σσ hrel;cases k with
   |zero=>cases hp
   |succ k=>
    simp only[qbt]at hp;obtain⟨xv,hstep,hlr⟩:=qd7 hp
    classical
    let K1:C→S→Option (LR S E Rf):=fun c' a' =>if c' =c then some (.next a')else none
    let D1:CE→E→Option (LR S E Rf):=fun c' e=>if c' =pE c then some (.done e)else none
    have hden:=hpar (LR S E Rf) K1 D1 (fun r=>some (.ret r)) c a;have e1:K1 c=fun a' =>some (.next a'):=by funext a';simp[K1]
    have e2:D1 (pE c)=fun e=>some (.done e):=by funext e;simp[D1]
    rw[e1,e2]at hden;rw[hstep]at hden;refine Code.wp_mono ?_ (qqx hX hmix hK body ann _ _ _ _ hs hden aa ww σσ hrel);rintro e a' w' ⟨s',σ',h1,hpost⟩;cases e with
    |normal=>
     have hk:(match shI.dec X.N X.kp s' with|some x=>K1 (un x).1 (un x).2|none=>none)=some xv:=hpost;cases hx' :shI.dec X.N X.kp s' with
     |none=>rw[hx']at hk;cases hk
     |some x' =>
      rw[hx']at hk;simp only[K1]at hk;split at hk
      ·rename_i hc;cases hk;obtain⟨σ2,hr2⟩:=Shp.dec_ok hK hx' h1;refine⟨(k,(un x').2),σ2,hlr,Nat.lt_succ_self k,?_⟩;have e:=hmk x';rw[hc]at e;rw[e];exact hr2
      ·cases hk
    |exit id' =>
     have hk1:(bif Nat.beq id' id then(match shE.dec X.N X.kp s' with|some y=>D1 (unE y).1 (unE y).2|none=>none)else none)=some xv:=hpost;have hid:=(ag hk1).1;have hk:=(ag hk1).2;have hid' :=am hid;cases hx' :shE.dec X.N X.kp s' with
     |none=>rw[hx']at hk;cases hk
     |some y=>
      rw[hx']at hk;simp only[D1]at hk;split at hk
      ·rename_i hc;cases hk;cases hlr;obtain⟨σ2,hr2⟩:=Shp.dec_ok hK hx' h1;refine⟨shE.enc (mkE (pE c) (unE y).2),σ2,?_,hid',hcont⟩;have e:=hmkE y;rw[hc]at e;rw[e];exact hr2
      ·cases hk
    |ret=>
     obtain⟨x',hres,hk⟩:=hpost;cases hk;cases hlr;exact⟨s',σ',h1,x',hres,hcont⟩
    |_=>exact hpost.elim
  have hloop:=CW.loop (P:=P) (Q:=fun e s' =>match e with| .exit id' =>id' =id∧kn s' =some r| .ret=>∃x,X.res s' =some x∧kr x=some r|_=>False) (fun p:Nat×S=>shI.enc (mk c p.2)) (fun p=>qm3 (fun a=>stepK c a (fun a' =>some (.next a')) (fun e=>some (.done e)) (fun r=>some (.ret r))) p.1 p.2=some o) (fun p=>p.1) hround (many,a0) hm;refine wp_block (Code.wp_mono ?_ (hloop av w σ1 hr1));rintro e a' w' ⟨s',σ',h1,h2⟩;cases e with
  |normal=>exact h2.elim
  |exit id' =>
   obtain⟨rfl,hk⟩:=h2;simp only[Exit.inBlock,if_true];exact⟨s',σ',h1,hk⟩
  |ret=>exact⟨s',σ',h1,h2⟩
  |_=>exact h2.elim
def tp(Rf:Type)(N:Nat)(kp:List Bool)(shI:Shp){A:Type}(un:shI.den→A)(shE:Shp){CE E:Type}(mkE:CE→E→shE.den)(pE:A→CE)
  (stepK:{R:Type}→A→(E→Option R)→(Rf→Option R)→Option R):Summ Rf where
 A:=A
 O:=E⊕Rf
 dec:=fun s=>match shI.dec N kp s with|some x=>some (un x)|none=>none
 m:=fun x=>stepK x (fun e=>some (.inl e)) (fun r=>some (.inr r))
 cont:=fun x o kn _ kr=>lk o (fun e=>kn (shE.enc (mkE (pE x) e))) kr
theorem qx3{X:Ctx Rf}(hX:CtxOK P X)(hmix:P.follows .mixedOrders=true){n:Nat}{c:Code}{ann:Ann}(hs:∀p∈qp c ann,ct P X p.1 p.2)
  {shI shE:Shp} {A CE E:Type} {un:shI.den→A} {mk:A→shI.den} {unE:shE.den→CE×E} {mkE:CE→E→shE.den} {pE:A→CE}
  {stepK:{R:Type}→A→(E→Option R)→(Rf→Option R)→Option R}
  (hΛ:X.Λ n=some (tp Rf X.N X.kp shI un shE mkE pE stepK)) (hmk:∀x,mk (un x)=x) (hmkE:∀y,mkE (unE y).1 (unE y).2=y)
  (hpar:∀(R:Type) (D:CE→E→Option R) (T:Rf→Option R) (a:A),
   den X c ann (shI.enc (mk a)) (fun s' =>match shE.dec X.N X.kp s' with|some y=>D (unE y).1 (unE y).2|none=>none) (fun _ _=>none) T=stepK a (D (pE a)) T):
  ct P X n c:=by
 intro σ hσ;rw[hΛ]at hσ;cases hσ;intro U w0 σ0 K hK R s (a:A) o kn ke kr r hdec hm hcont;simp only[tp]at hdec hm hcont;cases hx:shI.dec X.N X.kp s with
 |none=>rw[hx]at hdec;cases hdec
 |some x=>
  rw[hx]at hdec;simp only[Option.some.injEq]at hdec;intro av w σ hr;obtain⟨σ1,hr1⟩:=Shp.dec_ok hK hx hr;have hxe:x=mk a:=by
   have e:=hmk x;rw[hdec]at e;exact e.symm
  rw[hxe]at hr1
  classical
  let D:CE→E→Option (E⊕Rf):=fun c' e=>if c' =pE a then some (.inl e)else none
  have hden:=hpar (E⊕Rf) D (fun r=>some (.inr r)) a;have e2:D (pE a)=fun e=>some (.inl e):=by funext e;simp[D]
  rw[e2,hm]at hden;refine Code.wp_mono ?_ (qqx hX hmix hK c ann _ _ _ _ hs hden av w σ1 hr1);rintro e a' w' ⟨s',σ',h1,hpost⟩;cases e with
  |normal=>
   have hk:(match shE.dec X.N X.kp s' with|some y=>D (unE y).1 (unE y).2|none=>none)=some o:=hpost;cases hx' :shE.dec X.N X.kp s' with
   |none=>rw[hx']at hk;cases hk
   |some y=>
    rw[hx']at hk;simp only[D]at hk;split at hk
    ·rename_i hc;cases hk;obtain⟨σ2,hr2⟩:=Shp.dec_ok hK hx' h1;refine⟨shE.enc (mkE (pE a) (unE y).2),σ2,?_,hcont⟩;have e:=hmkE y;rw[hc]at e;rw[e];exact hr2
    ·cases hk
  |exit id' =>cases hpost
  |ret=>
   obtain⟨x',hres,hk⟩:=hpost;cases hk;exact⟨s',σ',h1,x',hres,hcont⟩
  |_=>exact hpost.elim
end
end Go.K
namespace Go.K
open Go.M Go.RowKit
def qwq(N:Nat)(tt:TT)(s:TS):ResultVar→Option TV
 | .tmp t=>some (rd N s.S t)
 | .cell a t=>match ql0 tt s.H t (rd N s.S a)with|some ([],v)=>some v|_=>none
def qhn(N:Nat)(tt:TT)(s:TS):List ResultVar→Option (List TV)
 |[]=>some []
 |r::rs=>
  match qwq N tt s r with
  |some v=>match qhn N tt s rs with|some l=>some (v::l)|none=>none
  |none=>none
def qec:Nat→List TV→List (Nat×TV)
 |_,[]=>[]
 |k,v::l=>(k,v)::qec (k+1) l
def qwo(N:Nat)(tt:TT)(kp:List Bool)(rs:List ResultVar)(sh:Shp)(s:TS):Option sh.den:=
 match qhn N tt s rs with
 |some vs=>sh.dec vs.length kp ⟨qec 0 vs,s.H⟩
 |none=>none
def cz(N:Nat)(tt:TT)(kp:List Bool)(rs:List ResultVar)(sh:Shp){B:Type}(un:sh.den→B)(s:TS):Option B:=
 match qwo N tt kp rs sh s with
 |some b=>some (un b)
 |none=>none
def qt4(S:List (Nat×TV)):Nat→Nat→List TV
 |_,0=>[]
 |j,k+1=>bw S j::qt4 S (j+1) k
def qrm(k:Nat)(S:List (Nat×TV)):TV:=
 match qt4 S 0 k with
 |[v]=>v
 |l=> .tup l
def qxe(l:ShL)(objs:List Hs)(args:List TV)(H:List TOb):wn:=qsq H 0 objs (l.fnd args (List.replicate objs.length none))
def qyp:wn→Option (List Nat)
 |[]=>some []
 |some t::l=>match qyp l with|some r=>some (t::r)|none=>none
 |none::_=>none
def aw(l:ShL)(objs:List Hs)(kp:List Bool)(k:Nat)(sh:Shp){B:Type}(mk:B→sh.den)(m:l.den×sg objs→Option B):Mdl where
 A:=l.den×sg objs
 B:=B
 dec:=fun args H=>
  match qyp (qxe l objs args H)with
  |some ρ=>
   bif qa6 (ρ.map some)then
    match l.dec true (ρ.map some) H args with
    |some x=>match zb true (ρ.map some) H (ρ.map some) objs with|some y=>some ((x,y),ρ,[])|none=>none
    |none=>none
   else none
  |none=>none
 args:=fun a=>l.enc a.1
 objs:=fun a=>ez objs a.2
 m:=m
 res:=fun _ b=>qrm k (z0 sh.sl (mk b).1)
 outs:=fun _ b=>ez sh.hp (mk b).2
 kp:=kp
mutual
def Sh.frB:Sh→Bool
 | .d fr t=>fr||t.flat
 | .rp fr _=>fr
 | .own _=>true
 | .kid _ _=>true
 | .ptr _=>true
 | .mp _=>true
 | .e=>true
 | .fn _ l=>l.frB
 | .agg l=>l.frB
 | .nl _ s=>s.frB
def ShL.frB:ShL→Bool
 | .nil=>true
 | .cons s l=>s.frB&&l.frB
end
def Hs.frB:Hs→Bool
 | .arr _ (.fz fr) _ t=>fr||t.flat
 | .arr _ _ _ _=>true
 | .cs _ _ _ l=>l.frB
 | .mp _ _=>true
def qs9:List (Nat×Sh)→Bool
 |[]=>true
 |p::l=>p.2.frB&&qs9 l
def qsr:List Hs→Bool
 |[]=>true
 |p::l=>p.frB&&qsr l
def Shp.frB(h:Shp):Bool:=qs9 h.sl&&qsr h.hp
theorem qf9:∀{l:List TV},(∀A∈l,A.fresh=true)→TV.freshL l=true
 |[],_=>rfl
 |A::l,h=>by simp only[TV.freshL,h A List.mem_cons_self,qf9 fun B hB=>h B (List.mem_cons_of_mem _ hB),Bool.and_self]
theorem qr8{fr:Bool}:∀{t:Ty} (x:t.den),(fr||t.flat)=true→(qr7 fr t x).fresh=true
 | .int _,_,_=>rfl
 | .bool,_,_=>rfl
 | .str,_,_=>rfl
 | .slice t,xs,h=>by simpa[qr7,TV.fresh,Ty.flat]using h
 | .struct l,x,h=>by
  simp only[qr7,TV.fresh];refine qf9 fun A hA=> ?_
  cases fr with
  |true=>exact qja (TyL.cells_form true l x A hA)
  |false=>exact TyL.flat_cells false l x (by simpa[Ty.flat]using h) A hA
mutual
theorem Sh.enc_fresh:∀(s:Sh) (x:s.den),s.frB=true→(s.enc x).fresh=true
 | .d fr t,x,h=>qr8 x h
 | .rp fr t,x,h=>h
 | .own _,_,_=>rfl
 | .kid _ _,_,_=>rfl
 | .ptr _,_,_=>rfl
 | .mp _,_,_=>rfl
 | .e,_,_=>rfl
 | .fn f l,x,h=>ShL.enc_fresh l x h
 | .agg l,x,h=>ShL.enc_fresh l x h
 | .nl _ s,x,h=>Sh.enc_fresh s x h
theorem ShL.enc_fresh:∀(l:ShL) (x:l.den),l.frB=true→TV.freshL (l.enc x)=true
 | .nil,_,_=>rfl
 | .cons s l,x,h=>by
  simp only[ShL.frB,Bool.and_eq_true]at h;simp only[ShL.enc,TV.freshL,Sh.enc_fresh s x.1 h.1,ShL.enc_fresh l x.2 h.2,Bool.and_self]
end
theorem Hs.enc_fresh:∀(h:Hs) (x:h.den),h.frB=true→(h.enc x).fresh=true
 | .arr _ (.fz _) _ _,_,h=>h
 | .arr _ .own _ _,_,_=>rfl
 | .arr _ (.hole _ _) _ _,_,_=>rfl
 | .arr _ (.swap _ _) _ _,_,_=>rfl
 | .cs _ _ _ l,x,h=>ShL.enc_fresh l x h
 | .mp _ _,_,_=>rfl
theorem qhf:∀(l:List Hs) (x:sg l),qsr l=true→yl (ez l x)=true
 |[],_,_=>rfl
 |p::l,x,h=>by
  simp only[qsr,Bool.and_eq_true]at h;simp only[ez,yl,Hs.enc_fresh p x.1 h.1,qhf l x.2 h.2,Bool.and_self]
theorem qht:∀(l:List (Nat×Sh)) (x:qmc l),qs9 l=true→∀t,(bw (z0 l x) t).fresh=true
 |[],_,_,t=>rfl
 |p::l,x,h,t=>by
  simp only[qs9,Bool.and_eq_true]at h;simp only[z0,uz];split
  ·exact Sh.enc_fresh p.2 x.1 h.1
  ·exact qht l x.2 h.2 t
theorem qrn{S:List (Nat×TV)}(h:∀t,(bw S t).fresh=true)(k:Nat):(qrm k S).fresh=true:=by
 have:∀k j,∀A∈qt4 S j k,A.fresh=true:=by
  intro k
  induction k with
  |zero=>intro j A hA;simp[qt4]at hA
  |succ k ih=>
   intro j A hA;rcases List.mem_cons.1 hA with rfl|hA
   ·exact h j
   ·exact ih _ A hA
 have h1:=this k 0;unfold qrm;split
 ·rename_i v e;exact h1 v (by rw[e];exact List.mem_cons_self)
 ·exact qf9 h1
end Go.K
namespace Go.K
open Go.M Go.RowKit
section
variable {U : Nat → Prop} {w0 : World} {σ0 : Pl} {K : Nat → Bool} {N : Nat} {P : Program} {tt : TT}
def qyc(tmps:Array Value):ResultVar→Sem Value
 | .tmp t=>pure (tmps.getD t undef)
 | .cell ad t=>do loadVar t (←asAddr (tmps.getD ad undef))
theorem qtp{H:List TOb}{t:TypeId}{A:TV}{r:List Bool×TV}(h:ql0 tt H t A=some r){G:Gr}{v:Value}(hv:VR G A v):∃ad,v= .pointer (some ad):=by
 unfold ql0 at h;split at h
 ·cases h
 ·split at h
  ·obtain⟨g,o,n,sz,_,_,rfl⟩:=hv;exact⟨_,rfl⟩
  ·obtain⟨g,o,n,sz,_,_,rfl⟩:=hv;exact⟨_,rfl⟩
  ·obtain⟨b,o,rfl,_⟩:=hv;exact⟨_,rfl⟩
  ·cases h
theorem qp3(hF:du P tt){s:TS}{a:Act}{w:World}{σ:Pl}(h:ey U w0 σ0 K N s a w σ):∀(rs:List ResultVar) (l:List TV),qhn N tt s rs=some l→
  ∃vs:List Value,(rs.mapM (qyc a.tmps)).run P w= .ok vs w∧ir (gr U (vw s.H) w σ) l vs
 |[],l,hl=>by
  simp only[qhn,Option.some.injEq]at hl;subst hl;exact⟨[],by simp,rfl⟩
 |r::rs,l,hl=>by
  unfold qhn at hl;split at hl
  ·rename_i v hv;split at hl
   ·rename_i m hm;cases hl;obtain⟨vs,hrun,hvs⟩:=qp3 hF h rs m hm;cases r with
    |tmp t=>
     simp only[qwq,Option.some.injEq]at hv;subst hv;refine⟨a.tmps.getD t undef::vs,by simp only[List.mapM_cons,qyc,Sem.run_bind,Sem.run_pure,Result.andThen_ok,hrun],_,vs,rfl,h.ev (.tmp t),hvs⟩
    |cell ad t=>
     simp only[qwq]at hv;split at hv
     ·rename_i v0 hload;cases hv;have hev:VR (gr U (vw s.H) w σ) (rd N s.S ad) (a.tmps.getD ad undef):=h.ev (.tmp ad);obtain⟨adr,hadr⟩:=qtp hload hev;obtain⟨u,hu,hV⟩:=qhh (P:=P) hF h.hr.sees hev hload g8.nil;rw[hadr]at hu;simp only[Instr.loadAt,Instr.sureAddr,pure_bind]at hu;have hu' :(loadVar t adr).run P w= .ok u w:=hu;refine⟨u::vs,?_,u,vs,rfl,hV,hvs⟩;simp only[List.mapM_cons,qyc,hadr,asAddr,pure_bind,Sem.run_bind,hu',Result.andThen_ok,hrun,Sem.run_pure]
     ·cases hv
   ·cases hl
  ·cases hl
theorem qga:∀(l:List TV) (k t:Nat),bw (qec k l) t=if k≤t then l.getD (t-k) .any else .any
 |[],k,t=>by simp[qec,bw]
 |v::l,k,t=>by
  simp only[qec,uz,qga l (k+1) t];by_cases h:k=t
  ·subst h;simp
  ·rw[if_neg h];by_cases h1:k≤t
   ·rw[if_pos (by omega),if_pos h1,show t-k=(t-(k+1))+1 by omega];simp
   ·rw[if_neg (by omega),if_neg h1]
theorem qpk{G:Gr}{S:List (Nat×TV)}:∀(vs:List Value) (j:Nat),(∀i v,vs[i]? =some v→VR G (bw S (j+i)) v)→ir G (qt4 S j vs.length) vs
 |[],j,_=>rfl
 |v::vs,j,h=>⟨v,vs,rfl,by simpa using h 0 v rfl,qpk vs (j+1) fun i u hi=>by rw[show j+1+i=j+(i+1) by omega];exact h (i+1) u (by simpa using hi)⟩
theorem qyd{G:Gr}{S:List (Nat×TV)}{vs:List Value}(h:ir G (qt4 S 0 vs.length) vs):VR G (qrm vs.length S) (if h:vs.toArray.size=1 then vs.toArray[0]else .tuple vs.toArray):=by
 unfold qrm
 match vs,h with
 |[],h=>exact⟨[],by simp,h⟩
 |[v],h=>
  obtain⟨u,r,e,h1,h2⟩:=h;simp only[List.cons.injEq]at e;obtain⟨rfl,_⟩:=e;rw[dif_pos (by simp)];exact h1
 |v::v2::vs,h=>
  rw[dif_neg (by simp)];exact⟨_,rfl,h⟩
theorem qwp(hF:du P tt){fn:Func}{rs:List ResultVar}(hrs:fn.results=rs.toArray){kp:List Bool}(hK:∀t,bc kp t=false→K t=false){sh:Shp}{s:TS}{b:sh.den}(hb:qwo N tt kp rs sh s=some b){a:Act}{w:World}{σ:Pl}(h:ey U w0 σ0 K N s a w σ):
  ∃v σ',(results fn a.tmps).run P w= .ok v w∧HR U w0 σ0 K (vw (ez sh.hp b.2)) w σ' ∧VR (gr U (vw (ez sh.hp b.2)) w σ') (qrm rs.length (z0 sh.sl b.1)) v:=by
 unfold qwo at hb;split at hb
 ·rename_i l hl;obtain⟨vs,hrun,hvs⟩:=qp3 (P:=P) hF h rs l hl;have hres:(results fn a.tmps).run P w= .ok (if h:vs.toArray.size=1 then vs.toArray[0]else .tuple vs.toArray) w:=by
   have e1:results fn a.tmps=(do let vs←fn.results.mapM (qyc a.tmps);pure (if h:vs.size=1 then vs[0]else .tuple vs)):=by
    unfold results;congr 1
   rw[e1,hrs];simp only[List.mapM_toArray,Sem.run_bind,Sem.run_map,hrun,Result.andThen_ok,Sem.run_pure]
  have hlen:∀(rs:List ResultVar) (l:List TV),qhn N tt s rs=some l→l.length=rs.length:=by
   intro rs
   induction rs with
   |nil=>intro l hl;simp only[qhn,Option.some.injEq]at hl;subst hl;rfl
   |cons r rs ih=>
    intro l hl;unfold qhn at hl;split at hl
    ·split at hl
     ·rename_i m hm;cases hl;simp[ih m hm]
     ·cases hl
    ·cases hl
  have hl1:=hlen rs l hl;have hl2:=hvs.len;have hr1:ey U w0 σ0 K l.length ⟨qec 0 l,s.H⟩ ⟨vs.toArray,[]⟩ w σ:=by
   refine⟨rfl,by simp[hl2],fun t ht=> ?_,h.hr⟩;obtain⟨u,hu,hV⟩:=hvs.getD t ht;refine⟨u,by simpa using hu,?_⟩;simp only[qga,Nat.zero_le,if_true,Nat.sub_zero];exact hV
  obtain⟨σ',hr2⟩:=Shp.dec_ok hK hb hr1;refine⟨_,σ',hres,hr2.hr,?_⟩;rw[show rs.length=vs.length by omega];refine qyd (qpk vs 0 fun i v hi=> ?_);rw[Nat.zero_add];obtain⟨v',hv',hV⟩:=hr2.slot i (by have:=(List.getElem?_eq_some_iff.1 hi).1;omega);have:v' =v:=by
   have:vs[i]? =some v' :=by simpa using hv'
   rw[hi]at this;exact(Option.some.inj this).symm
  subst this;exact hV
 ·cases hb
theorem qno{l:ShL}{objs:List Hs}{kp:List Bool}{k:Nat}{sh:Shp}{B:Type}{mk:B→sh.den}{m:l.den×sg objs→Option B}:∀args Hv H a ρ bs,HLe (fun _=>False) Hv H→(aw l objs kp k sh mk m).dec args Hv=some (a,ρ,bs)→qi7 ρ=true→qiz Hv.length ρ=true→qjy ρ bs=true→∀(U:Nat→Prop) (w0:World) (σ0:Pl) (K:Nat→Bool) (w:World) (σ:Pl),HR U w0 σ0 K (vw H) w σ→
  HR (u5 ρ U σ) w (qax ρ σ) (bc kp) (vw ((aw l objs kp k sh mk m).objs a)) w (qax ρ σ)∧∀vs:List Value,ir (gr U (vw H) w σ) args vs→ir (gr (u5 ρ U σ) (vw ((aw l objs kp k sh mk m).objs a)) w (qax ρ σ)) ((aw l objs kp k sh mk m).args a) vs:=by
 intro args Hv H a ρ bs hle hdec _ _ _ U w0 σ0 K w σ hHR;simp only[aw]at hdec;split at hdec
 ·rename_i ρ' hρ;obtain⟨hok,hdec⟩:=ag hdec;split at hdec
  ·rename_i x hx;split at hdec
   ·rename_i y hy;cases hdec;obtain⟨hcv,hHR'⟩:=q2s (bc kp) hHR hle hok hy;refine⟨hHR',fun vs hvs=> ?_⟩;have:=ShL.dec_ok hcv l args x hx vs hvs;rw[qgn]at this;exact this
   ·cases hdec
  ·cases hdec
 ·cases hdec
theorem ql2{l:ShL}{objs:List Hs}{kp:List Bool}{k:Nat}{sh:Shp}{B:Type}{mk:B→sh.den}{m:l.den×sg objs→Option B}(hfr:sh.frB=true)(a:l.den×sg objs)(b:B):TV.fresh ((aw l objs kp k sh mk m).res a b)=true∧yl ((aw l objs kp k sh mk m).outs a b)=true:=by
 have hfr' :=hfr;simp only[Shp.frB,Bool.and_eq_true]at hfr';exact⟨qrn (qht sh.sl (mk b).1 hfr'.1) _,qhf sh.hp (mk b).2 hfr'.2⟩
theorem q48{f:FuncId}{fn:Func}{c:Code}(hf:P.funcs[f]? =some fn)(hname:(fn.name== "runtime.NumGoroutine")=false)(hb:fn.body=some c){B:Type}{X:Ctx B}(hN:fn.ntmps=X.N){rs:List ResultVar}
  (hrs:fn.results=rs.toArray) {l:ShL} {objs:List Hs} {sh:Shp} {un:sh.den→B} {mk:B→sh.den} (hmk:∀x,mk (un x)=x) (hres:X.res=cz X.N X.tt X.kp rs sh un) (hX:CtxOK P X) (hmix:P.follows .mixedOrders=true) {ann:Ann} (hs:∀p∈qp c ann,ct P X p.1 p.2) (hl:l.len≤X.N) (hfr:sh.frB=true)
  {m:l.den×sg objs→Option B} (hden:∀a,den X c ann ⟨qec 0 (l.enc a.1),ez objs a.2⟩ X.res (fun _ _=>none) some=m a):MdlOK P f (aw l objs X.kp rs.length sh mk m):=by
 refine⟨⟨fn,hf,hname,by rw[hb];rfl⟩,fun a b hm U w σ hHR vs hvs=> ?_,qno,fun a b _=>ql2 hfr a b⟩;have hm' :m a=some b:=hm;have hvl:vs.length=l.len:=by rw[hvs.len];exact ShL.enc_len l a.1
 have hr0:ey U w σ (bc X.kp) X.N ⟨qec 0 (l.enc a.1),ez objs a.2⟩ {tmps:=vs.toArray++Array.replicate (fn.ntmps-vs.toArray.size) undef,defers:=[]} w σ:=by
  refine⟨rfl,by simp[hN];omega,fun t ht=> ?_,hHR⟩;simp only[qga,Nat.zero_le,if_true,Nat.sub_zero];rcases Nat.lt_or_ge t vs.length with h1|h1
  ·obtain⟨u,hu,hV⟩:=ir.getD hvs t (by show t<(l.enc a.1).length;rw[ShL.enc_len];omega);exact⟨u,by rw[Array.getElem?_append_left (by simpa using h1)];simpa using hu,hV⟩
  ·refine⟨undef,?_,?_⟩
   ·rw[Array.getElem?_append_right (by simpa using h1)];simp[hN];rw[Array.getElem?_replicate,if_pos (by omega)]
   ·rw[List.getD_eq_getElem?_getD,List.getElem?_eq_none (by rw[ShL.enc_len];omega)]
    trivial
 have hd:=hden a;rw[hm']at hd;refine calls_of_wp hf hb (Code.wp_mono ?_ (qqx (K:=bc X.kp) hX hmix (fun t h=>h) c ann _ _ _ _ hs hd _ w σ hr0));have done:∀s' a' w' σ',ey U w σ (bc X.kp) X.N s' a' w' σ' →X.res s' =some b→a'.defers=[]∧∃v,(results fn a'.tmps).run P w' = .ok v w' ∧∃v2 σ',Ending.returned v= .returned v2∧HR U w σ (bc X.kp) (vw (ez sh.hp (mk b).2)) w' σ' ∧VR (gr U (vw (ez sh.hp (mk b).2)) w' σ') (qrm rs.length (z0 sh.sl (mk b).1)) v2:=by
  intro s' a' w' σ' h1 h2;rw[hres]at h2;unfold cz at h2;split at h2
  ·rename_i b0 hb0;cases h2;rw[hmk];obtain⟨v,σ2,e1,e2,e3⟩:=qwp hX.fits hrs (fun t h=>h) hb0 h1;exact⟨h1.defers,v,e1,v,σ2,rfl,e2,e3⟩
  ·cases h2
 rintro e a' w' ⟨s',σ',h1,hpost⟩;cases e with
 |normal=>exact done s' a' w' σ' h1 hpost
 |ret=>
  obtain⟨x,hx,hk⟩:=hpost;cases hk;exact done s' a' w' σ' h1 hx
 |exit id=>cases hpost
 |_=>exact hpost.elim
theorem ql3{f:FuncId}{s:Sh}{l:ShL}{objs:List Hs}{kp:List Bool}{k:Nat}{sh:Shp}{B:Type}{mk:B→sh.den}{m m0 m1:(ShL.cons s l).den×sg objs→Option B}(hs:∀(G:Gr) (x:s.den) (v:Value),VR G (s.enc x) v→∃a n c,v= .slice a n c)
  (h0:MdlOK P f (aw (.cons (.nl false s) l) objs kp k sh mk m0)) (h1:MdlOK P f (aw (.cons (.nl true s) l) objs kp k sh mk m1)) (hfr:sh.frB=true) (hm:∀a b,m a=some b→m0 a=some b∧m1 a=some b):MdlOK P f (aw (.cons s l) objs kp k sh mk m):=by
 refine⟨h0.fn,fun a b hb U w σ hHR vs hvs=> ?_,qno,fun a b _=>ql2 hfr a b⟩;obtain⟨hb0,hb1⟩:=hm a b hb;obtain⟨u,r,rfl,h2,h3⟩:=(show ir _ (s.enc a.1.1::l.enc a.1.2) vs from hvs);obtain⟨ad,n,c,rfl⟩:=hs _ _ _ h2;cases ad with
 |none=>exact h0.run a b hb0 U w σ hHR _ ⟨_,r,rfl,⟨h2,fun a' c' e=>by cases e;rfl⟩,h3⟩
 |some q=>exact h1.run a b hb1 U w σ hHR _ ⟨_,r,rfl,⟨h2,fun n' c' e=>by cases e⟩,h3⟩
theorem qta(fr:Bool)(t:Ty):∀(G:Gr) (x:(Sh.d fr (.slice t)).den) (v:Value),VR G ((Sh.d fr (.slice t)).enc x) v→∃a n c,v= .slice a n c:=by
 intro G x v h;obtain⟨a,c,h,_⟩:=h;exact⟨_,_,_,h⟩
def mq:List (FuncId×Mdl)→FuncId→List Mdl
 |[],_=>[]
 |p::l,f=>bif Nat.beq p.1 f then p.2::mq l f else mq l f
theorem q15{l:List (FuncId×Mdl)}(h:∀p∈l,MdlOK P p.1 p.2):∀f M,M∈mq l f→MdlOK P f M:=by
 intro f M hM
 induction l with
 |nil=>simp[mq]at hM
 |cons p l ih=>
  unfold mq at hM;cases hb:Nat.beq p.1 f with
  |false=>rw[hb]at hM;exact ih (fun q hq=>h q (List.mem_cons_of_mem _ hq)) hM
  |true=>
   rw[hb]at hM;rcases List.mem_cons.1 hM with rfl|hM
   ·rw[←am hb];exact h p (List.mem_cons_self ..)
   ·exact ih (fun q hq=>h q (List.mem_cons_of_mem _ hq)) hM
def qor(P:Program):List (FuncId×Mdl)→Prop
 |[]=>True
 |p::l=>MdlOK P p.1 p.2∧qor P l
theorem qor.all{P:Program}:∀{l:List (FuncId×Mdl)},qor P l→∀p∈l,MdlOK P p.1 p.2
 |[],_,p,hp=>by simp at hp
 |q::l,h,p,hp=>by
  rcases List.mem_cons.1 hp with rfl|hp
  ·exact h.1
  ·exact qor.all h.2 p hp
def qh0(P:Program){Rf:Type}(X:Ctx Rf):List (Nat×Code)→Prop
 |[]=>True
 |p::l=>ct P X p.1 p.2∧qh0 P X l
theorem qh0.all{P:Program}{Rf:Type}{X:Ctx Rf}{c:Code}{ann:Ann}{l:List (Nat×Code)}(h:qp c ann=l)(hl:qh0 P X l):∀p∈qp c ann,ct P X p.1 p.2:=by
 rw[h];clear h
 induction l with
 |nil=>intro p hp;simp at hp
 |cons q l ih=>
  intro p hp;rcases List.mem_cons.1 hp with rfl|hp
  ·exact hl.1
  ·exact ih hl.2 p hp
def nw{Rf:Type}:List (Summ Rf)→Nat→Option (Summ Rf)
 |[],_=>none
 |σ::_,0=>some σ
 |_::l,n+1=>nw l n
end
end Go.K
namespace Go.K
open Go.M Go.RowKit Go.ChangeShapes Go.WideShapes Go.Deep
mutual
def Ty.good:(t:Ty)→t.den→Prop
 | .int k,n=> @LE.le Int _ k.min n∧ @LE.le Int _ n k.max
 | .bool,_=>True
 | .str,s=>ByteArray.size s≤maxLen
 | .slice t,xs=>List.length (α:=t.den) xs≤maxLen∧∀x:t.den,@Membership.mem t.den (List t.den) _ xs x→t.good x
 | .struct l,x=>l.good x
def TyL.good:(l:TyL)→l.den→Prop
 | .nil,_=>True
 | .cons t l,x=>t.good x.1∧l.good x.2
end
def qyj(tt:TT)(t:TypeId)(n:Nat):Bool:=match tt t with|some x=>Nat.beq x.sz n|none=>false
def qt3(tt:TT)(ok:TypeId→Ty→Bool):List (Nat×TypeId)→TyL→Nat→Bool
 |[], .nil,_=>true
 |(o,t)::fs, .cons u l,off=>Nat.beq o off&&(ok t u&&(qyj tt t u.sz&&qt3 tt ok fs l (off+u.sz)))
 |_,_,_=>false
def qln(ok:TypeId→Ty→Bool)(e:TypeId)(z:Nat):Nat→TyL→Bool
 |0, .nil=>true
 |n+1, .cons u l=>ok e u&&(Nat.beq u.sz z&&qln ok e z n l)
 |_,_=>false
def qqb(tt:TT):Nat→TypeId→Ty→Bool
 |0,_,_=>false
 |n+1,t,u=>
  match u,tt t with
  | .int k,some ⟨.int k',_,_,_⟩=>decide (k=k')
  | .bool,some ⟨.bool,_,_,_⟩=>true
  | .str,some ⟨.str,_,_,_⟩=>true
  | .slice u,some ⟨.slice e,_,_,_⟩=>qqb tt n e u&&(qyj tt e u.sz&&Nat.blt 0 u.sz)
  | .struct l,some ⟨.strct _ fs,sz,_,_⟩=>qt3 tt (qqb tt n) fs l 0&&Nat.beq l.sz sz
  | .struct l,some ⟨.arr _ k e,sz,_,_⟩=>match tt e with|some ei=>qln (qqb tt n) e ei.sz k l&&Nat.beq l.sz sz|none=>false
  |_,_=>false
section
variable {P : Program} {tt : TT}
theorem yk(hF:du P tt){t:TypeId}{x:TI}(h:tt t=some x):P.cellsOf t=x.sz:=by
 obtain⟨i,d,z,h1,h2,h3,h4,_⟩:=(hF t x h).1;simp[Program.cellsOf,h1,h4]
theorem ne(hF:du P tt){t:TypeId}{x:TI}(h:tt t=some x):∃d,P.underlying t=some d∧TK.of d=x.k.plain:=by
 obtain⟨i,d,z,h1,h2,h3,_⟩:=(hF t x h).1;exact⟨d,h2,h3⟩
theorem qtf(hF:du P tt){t:TypeId}{n:Nat}(h:qyj tt t n=true):P.cellsOf t=n:=by
 unfold qyj at h;split at h
 ·rename_i x hx;rw[yk hF hx];exact am h
 ·cases h
theorem qwf{d:TypeDesc}{k:IntKind}(h:TK.of d= .int k):d= .int k:=by cases d<;>simp_all[TK.of]
theorem qsy{d:TypeDesc}(h:TK.of d= .bool):d= .bool:=by cases d<;>simp_all[TK.of]
theorem qwg{d:TypeDesc}(h:TK.of d= .str):d= .string:=by cases d<;>simp_all[TK.of]
theorem qpy{d:TypeDesc}{e:TypeId}(h:TK.of d= .slice e):d= .slice e:=by cases d<;>simp_all[TK.of]
theorem qwe{d:TypeDesc}{n:Nat}{e:TypeId}(h:TK.of d= .arr false n e):d= .array n e:=by cases d<;>simp_all[TK.of]
theorem qpz{d:TypeDesc}{l:List (Nat×TypeId)}(h:TK.of d= .strct false l):∃fs:Array Field,d= .struct fs∧(fs.toList.map fun f=>(f.offset,f.type))=l:=by
 cases d<;>simp_all[TK.of]
def qqi(P:Program)(t:TypeId)(u:Ty):Prop:=
 ∀(H:Type) (enc:TypeId×Value→H) (w:World) (sp:Nat→Bool) (held:Bool) (fuel:Nat) (cs:List Value) (x:DataW H×List MemPlace),DataW.trod enc P w 0 sp held fuel t cs=some x→
  ∃m:u.den,u.good m∧cs.length=u.sz∧∀f,f<u.sz→∃y,cs[f]? =some y∧y.oneCell' =true∧Ty.C w (fun _=>False) u m f y
theorem Opn.int{t:TypeId}{k:IntKind}(ht:P.underlying t=some (.int k)):qqi P t (.int k):=by
 intro H enc w sp held fuel cs x hx;obtain⟨n,rfl,_,hw⟩:=DataW.trod_int ht hx;simp only[Lit.wf,Bool.and_eq_true,decide_eq_true_eq]at hw;refine⟨n,hw,rfl,fun f hf=> ?_⟩;obtain rfl:f=0:=by simp[Ty.sz]at hf;omega
 exact⟨_,rfl,rfl,rfl⟩
theorem Opn.bool{t:TypeId}(ht:P.underlying t=some .bool):qqi P t .bool:=by
 intro H enc w sp held fuel cs x hx;obtain⟨b,rfl,_⟩:=DataW.trod_bool ht hx;refine⟨b,trivial,rfl,fun f hf=> ?_⟩;obtain rfl:f=0:=by simp[Ty.sz]at hf;omega
 exact⟨_,rfl,rfl,rfl⟩
theorem Opn.slice{t e:TypeId}{u:Ty}(h:qqi P e u)(ht:P.underlying t=some (.slice e))(hc:P.cellsOf e=u.sz)(h0:0<u.sz):qqi P t (.slice u):=by
 intro H enc w sp held fuel cs x hx;rcases open_slice ht hx with⟨rfl,_⟩|⟨a,len,cap,m,n,D,Pl,rfl,hb,hl,hm,hmm,_,hi⟩
 ·refine⟨([]:List u.den),⟨by simp[maxLen],fun x hx=>by simp at hx⟩,rfl,fun f hf=> ?_⟩;obtain rfl:f=0:=by simp[Ty.sz]at hf;omega
  exact⟨_,rfl,rfl,none,0,rfl,Nat.le_refl _,by simp[maxLen],fun h=>by simp at h⟩
 ·have hlm:len≤m:=by rw[hmm];split<;>omega
  have hel:∀i,i<len→∃y:u.den,u.good y∧∀f,f<u.sz→∃z,w.cell? (a.add (i*u.sz+f))=some z∧z.oneCell' =true∧Ty.C w (fun _=>False) u y f z:=by
   intro i hil;obtain⟨cs',h1,h2⟩:=hi i (by omega);rw[hc]at h1;obtain⟨_,hcl,hat⟩:=World.cells?_some h1;obtain⟨y,hy,hyl,hyc⟩:=h H enc w sp held n cs' _ h2;refine⟨y,hy,fun f hf=> ?_⟩;obtain⟨z,hz,h3⟩:=hyc f hf;exact⟨z,by rw[←Go.Deep.add_add,hat f hf];exact hz,h3⟩
  have hch:∃g:Nat→u.den,∀i,i<len→u.good (g i)∧∀f,f<u.sz→∃z,w.cell? (a.add (i*u.sz+f))=some z∧z.oneCell' =true∧Ty.C w (fun _=>False) u (g i) f z:=by
   refine⟨fun i=>if hi:i<len then Classical.choose (hel i hi)else u.dft,fun i hil=> ?_⟩;simp only[hil,dif_pos];exact Classical.choose_spec (hel i hil)
  obtain⟨g,hg⟩:=hch;refine⟨(List.range len).map g,⟨by simpa using by omega,fun y hy=> ?_⟩,rfl,fun f hf=> ?_⟩
  ·obtain⟨i,hir,rfl⟩:=List.mem_map.1 hy;exact(hg i (List.mem_range.1 hir)).1
  ·obtain rfl:f=0:=by simp[Ty.sz]at hf;omega
   refine⟨_,rfl,rfl,some a,cap,by simp,by simpa using hl,hm,fun h0' => ?_⟩;have hlen:0<len:=by simpa using h0'
   obtain⟨u0,hu0,_⟩:=(hg 0 hlen).2 0 h0;have hs:a.spot=none∧a.block<w.heap.size:=by
    unfold World.cell? at hu0;split at hu0
    ·rename_i hb';split at hu0
     ·cases hu0
     ·rename_i hsp;refine⟨by simpa[Addr.add]using hsp,?_⟩;have:=(Array.getElem?_eq_some_iff.1 hb').1;simpa[Addr.add]using this
    ·cases hu0
   obtain⟨b,o,s⟩:=a;obtain rfl:s=none:=hs.1;refine⟨b,o,rfl,hs.2,fun h=>h,fun i f hi' hf' => ?_⟩;have hil:i<len:=by simpa using hi'
   obtain⟨z,hz,h1,h2⟩:=(hg i hil).2 f hf';have ha:(⟨b,o,none⟩:Addr).add (i*u.sz+f)=⟨b,o+(i*u.sz+f),none⟩:=by
    unfold Addr.add;split
    ·rename_i h;simp[h]
    ·rfl
   refine⟨z,ha▸hz,h1,?_⟩;have e:List.getD (α:=u.den) ((List.range len).map g) i u.dft=g i:=by simp[List.getD_eq_getElem?_getD,hil]
   rw[e];exact h2
theorem qhe{H:Type}{enc:TypeId×Value→H}{w:World}{sp:Nat→Bool}{held:Bool}{n:Nat}{cs:List Value}(hF:du P tt){ok:TypeId→Ty→Bool}(hok:∀t u,ok t u=true→qqi P t u):
  ∀(fs:List (Nat×TypeId)) (l:TyL) (off:Nat),qt3 tt ok fs l off=true→(∀p∈fs,∃y,DataW.trod enc P w 0 sp held n p.2 ((cs.drop p.1).take (P.cellsOf p.2))=some y)→
   ∃x:l.den,l.good x∧∀f,f<l.sz→∃u,cs[off+f]? =some u∧u.oneCell' =true∧TyL.C w (fun _=>False) l x f u
 |[], .nil,off,_,_=>⟨(),trivial,fun f hf=>by simp[TyL.sz]at hf⟩
 |[], .cons _ _,off,h,_=>by simp[qt3]at h
 |_::_, .nil,off,h,_=>by simp[qt3]at h
 |(o,t)::fs, .cons u l,off,h,hr=>by
  simp only[qt3,Bool.and_eq_true]at h;obtain⟨h1,h2,h3,h4⟩:=h;have ho:=am h1;subst ho;have hc:=qtf hF h3;obtain⟨y,hy⟩:=hr (o,t) (List.mem_cons_self ..);obtain⟨x1,g1,_,c1⟩:=hok t u h2 H enc w sp held n _ y hy;obtain⟨x2,g2,c2⟩:=qhe hF hok fs l (o+u.sz) h4 (fun p hp=>hr p (List.mem_cons_of_mem _ hp));refine⟨(x1,x2),⟨g1,g2⟩,fun f hf=> ?_⟩;unfold TyL.sz at hf;show∃u',cs[o+f]? =some u' ∧u'.oneCell' =true∧(if f<u.sz then Ty.C w (fun _=>False) u x1 f u' else TyL.C w (fun _=>False) l x2 (f-u.sz) u');by_cases hlt:f<u.sz
  ·simp only[if_pos hlt];obtain⟨u',hu',hh⟩:=c1 f hlt;simp only[hc]at hu';rw[List.getElem?_take,if_pos hlt,List.getElem?_drop]at hu';exact⟨u',hu',hh⟩
  ·simp only[if_neg hlt];obtain⟨u',hu',hh⟩:=c2 (f-u.sz) (by omega);refine⟨u',?_,hh⟩;rw[←hu'];congr 1;omega
theorem qi8{H:Type}{enc:TypeId×Value→H}{w:World}{sp:Nat→Bool}{held:Bool}{n:Nat}{cs:List Value}{e:TypeId}{z:Nat}(hz:P.cellsOf e=z){ok:TypeId→Ty→Bool}(hok:∀t u,ok t u=true→qqi P t u):
  ∀(k:Nat) (l:TyL) (i0:Nat),qln ok e z k l=true→(∀i,i<k→∃y,DataW.trod enc P w 0 sp held n e ((cs.drop ((i0+i)*z)).take z)=some y)→
   ∃x:l.den,l.good x∧∀f,f<l.sz→∃u,cs[i0*z+f]? =some u∧u.oneCell' =true∧TyL.C w (fun _=>False) l x f u
 |0, .nil,i0,_,_=>⟨(),trivial,fun f hf=>by simp[TyL.sz]at hf⟩
 |0, .cons _ _,i0,h,_=>by simp[qln]at h
 |_+1, .nil,i0,h,_=>by simp[qln]at h
 |k+1, .cons u l,i0,h,hr=>by
  simp only[qln,Bool.and_eq_true]at h;obtain⟨h1,h2,h3⟩:=h;have hu:=am h2;obtain⟨y,hy⟩:=hr 0 (by omega);obtain⟨x1,g1,_,c1⟩:=hok e u h1 H enc w sp held n _ y hy;obtain⟨x2,g2,c2⟩:=qi8 hz hok k l (i0+1) h3 (fun i hi=>by have:=hr (i+1) (by omega);rwa[show i0+(i+1)=i0+1+i by omega]at this);refine⟨(x1,x2),⟨g1,g2⟩,fun f hf=> ?_⟩;unfold TyL.sz at hf;show∃u',cs[i0*z+f]? =some u' ∧u'.oneCell' =true∧(if f<u.sz then Ty.C w (fun _=>False) u x1 f u' else TyL.C w (fun _=>False) l x2 (f-u.sz) u');by_cases hlt:f<u.sz
  ·simp only[if_pos hlt];obtain⟨u',hu',hh⟩:=c1 f hlt;rw[List.getElem?_take,if_pos (by omega),List.getElem?_drop]at hu';exact⟨u',by simpa using hu',hh⟩
  ·simp only[if_neg hlt];obtain⟨u',hu',hh⟩:=c2 (f-u.sz) (by omega);refine⟨u',?_,hh⟩;rw[←hu'];congr 1;rw[Nat.add_mul];omega
theorem q9l(hF:du P tt):∀(n:Nat) (t:TypeId) (u:Ty),qqb tt n t u=true→qqi P t u:=by
 intro n
 induction n with
 |zero=>intro t u h;simp[qqb]at h
 |succ n ih=>
  intro t u h;unfold qqb at h;split at h
  ·rename_i k k' a1 a2 a3 ht;have hk:k=k' :=by simpa using h
   subst hk;obtain⟨d,hd,hk⟩:=ne hF ht;exact Opn.int (qwf hk▸hd)
  ·rename_i a1 a2 a3 ht;obtain⟨d,hd,hk⟩:=ne hF ht;exact Opn.bool (qsy hk▸hd)
  ·rename_i a1 a2 a3 ht;obtain⟨d,hd,hk⟩:=ne hF ht;have hs:=qwg hk;subst hs;intro H enc w sp held fuel cs x hx;obtain⟨s,rfl,_,hsz⟩:=DataW.trod_string hd hx;refine⟨s,hsz,rfl,fun f hf=> ?_⟩;obtain rfl:f=0:=by simp[Ty.sz]at hf;omega
   exact⟨_,rfl,rfl,rfl⟩
  ·rename_i u e a1 a2 a3 ht;simp only[Bool.and_eq_true]at h;obtain⟨h1,h2,h3⟩:=h;obtain⟨d,hd,hk⟩:=ne hF ht;exact Opn.slice (ih e u h1) (qpy hk▸hd) (qtf hF h2) (ec h3)
  ·rename_i l c fs sz a2 a3 ht;simp only[Bool.and_eq_true]at h;obtain⟨h1,h2⟩:=h;obtain⟨d,hd,hk⟩:=ne hF ht;obtain⟨fs',hfs,hl⟩:=qpz hk;subst hfs;intro H enc w sp held fuel cs x hx;obtain⟨xs,m,hf,_,hcl,hxl,hfl⟩:=DataW.trod_struct hd hx;obtain⟨y,gy,cy⟩:=qhe (H:=H) (enc:=enc) (w:=w) (sp:=sp) (held:=held) (n:=m) (cs:=cs) hF ih fs l 0 h1 (by
    intro p hp;rw[←hl]at hp;obtain⟨f,hfm,rfl⟩:=List.mem_map.1 hp;obtain⟨i,hi,hif⟩:=List.getElem_of_mem hfm;have hfi:fs'[i]? =some f:=by rw[←hif];simp at hi;simp[hi]
    have h4:=hfl i f hfi;have hi' :i<fs'.size:=by simpa using hi
    rw[List.getElem?_eq_getElem (by omega)]at h4;exact⟨_,h4⟩)
   have hsz:cs.length=l.sz:=by rw[hcl,yk hF ht];exact(am h2).symm
   exact⟨y,gy,hsz,fun f hf=>by have:=cy f hf;rw[Nat.zero_add]at this;exact this⟩
  ·rename_i l c k e sz a2 a3 ht;split at h
   ·rename_i ei he;simp only[Bool.and_eq_true]at h;obtain⟨h1,h2⟩:=h;obtain⟨d,hd,hk⟩:=ne hF ht;have hd' :=qwe hk;subst hd';intro H enc w sp held fuel cs x hx;obtain⟨xs,m,hf,_,hcl,hxl,hfl⟩:=DataW.trod_array hd hx;have hz:=yk hF he;obtain⟨y,gy,cy⟩:=qi8 (H:=H) (enc:=enc) (w:=w) (sp:=sp) (held:=held) (n:=m) (cs:=cs) hz ih k l 0 h1 (by
     intro i hi;have h4:=hfl i hi;rw[List.getElem?_eq_getElem (by omega),hz]at h4;exact⟨_,by simpa using h4⟩)
    have hsz:cs.length=l.sz:=by rw[hcl,yk hF ht];exact(am h2).symm
    exact⟨y,gy,hsz,fun f hf=>by have:=cy f hf;rw[Nat.zero_mul,Nat.zero_add]at this;exact this⟩
   ·cases h
  ·cases h
def qd4(tt:TT):List TypeId→ShL→Bool
 |[], .nil=>true
 |t::ts, .cons (.d _ u) l=>qqb tt 12 t u&&qd4 tt ts l
 |_,_=>false
def ShL.good:(l:ShL)→l.den→Prop
 | .nil,_=>True
 | .cons (.d _ t) l,x=>t.good x.1∧l.good x.2
 | .cons _ l,x=>l.good x.2
def gr0(w:World):Gr:=gr (fun _=>False) (vw []) w (fun _=>none)
theorem qyo{w:World}{u:Ty}{x:u.den}{f:Nat}{v:Value}(h:Ty.C w (fun _=>False) u x f v)(fr:Bool):Ty.C w (YY (gr0 w).X (gr0 w).U fr) u x f v:=by
 refine Ty.C_low ⟨Nat.le_refl _,fun b _ _ hY=> ?_,fun _ _ _=>rfl⟩ u x f v h;rcases hY with⟨T,o,hT⟩|⟨_,e⟩
 ·cases hT
 ·exact e
theorem qlm{H:Type}{enc:TypeId×Value→H}{W:World}{sp:Nat→Bool}{held:Bool}{base:Nat}(hF:du P tt):∀(ts:List TypeId) (l:ShL),qd4 tt ts l=true→∀(vs:List Value) (ds:List (DataW H)) (ps:List MemPlace),
  DataW.TrodAll enc P W 0 sp held ts vs ds ps→(∀(j:Nat) t v,ts[j]? =some t→vs[j]? =some v→Value.okWide P W .any base t v)→
  ∃a:l.den,l.good a∧ir (gr0 W) (l.enc a) vs
 |[], .nil,_,vs,ds,ps,h,_=>by
  obtain⟨rfl,_,_⟩:=trodAll_nil h;exact⟨(),trivial,rfl⟩
 |[], .cons _ _,h,_,_,_,_,_=>by simp[qd4]at h
 |_::_, .nil,h,_,_,_,_,_=>by simp[qd4]at h
 |t::ts, .cons (.rp _ _) l,h,_,_,_,_,_=>by simp[qd4]at h
 |t::ts, .cons (.kid _ _) l,h,_,_,_,_,_=>by simp[qd4]at h
 |t::ts, .cons (.nl _ _) l,h,_,_,_,_,_=>by simp[qd4]at h
 |t::ts, .cons (.fn _ _) l,h,_,_,_,_,_=>by simp[qd4]at h
 |t::ts, .cons (.agg _) l,h,_,_,_,_,_=>by simp[qd4]at h
 |t::ts, .cons (.own _) l,h,_,_,_,_,_=>by simp[qd4]at h
 |t::ts, .cons (.ptr _) l,h,_,_,_,_,_=>by simp[qd4]at h
 |t::ts, .cons .e l,h,_,_,_,_,_=>by simp[qd4]at h
 |t::ts, .cons (.d fr u) l,h,vs,ds,ps,hA,hval=>by
  simp only[qd4,Bool.and_eq_true]at h;obtain⟨v,vs',d,ds',p,q,rfl,rfl,rfl,h1,h2⟩:=trodAll_cons hA;obtain⟨a2,g2,c2⟩:=qlm hF ts l h.2 vs' ds' q h2 (fun j t' v' hj hv=>hval (j+1) t' v' (by simpa using hj) (by simpa using hv));have hv0:=hval 0 t v rfl rfl;have key:∃x:u.den,u.good x∧VR (gr0 W) (qr7 fr u x) v:=by
   have hop:=q9l hF 12 t u h.1;obtain⟨fuel,hf⟩:=h1;obtain⟨x,gx,hl,hc⟩:=hop H enc W sp held fuel _ _ hf;refine⟨x,gx,?_⟩;have one:u.sz=1→v.cells= #[v]→Ty.C W (fun _=>False) u x 0 v:=by
    intro hu hv;obtain⟨u',hu',_,hV⟩:=hc 0 (by omega);rw[hv]at hu';simp at hu';subst hu';exact hV
   have hty:=h.1;unfold qqb at hty;split at hty
   ·rename_i k k' a1 a2 a3 ht;obtain⟨d',hd,hk⟩:=ne hF ht;have:=qwf hk;subst this;obtain⟨m,rfl⟩:=okWide_int hd hv0;exact one rfl rfl
   ·rename_i a1 a2 a3 ht;obtain⟨d',hd,hk⟩:=ne hF ht;have:=qsy hk;subst this;obtain⟨m,rfl⟩:=okWide_bool hd hv0;exact one rfl rfl
   ·rename_i a1 a2 a3 ht;obtain⟨d',hd,hk⟩:=ne hF ht;have:=qwg hk;subst this;obtain⟨m,rfl⟩:=okWide_string hd hv0;exact one rfl rfl
   ·rename_i u' e a1 a2 a3 ht;obtain⟨d',hd,hk⟩:=ne hF ht;have:=qpy hk;subst this;obtain⟨a,len,cap,rfl⟩:=okWide_slice hd hv0;exact qyo (u:= .slice u') (one rfl rfl) fr
   ·rename_i l' c fs sz a2 a3 ht;obtain⟨d',hd,hk⟩:=ne hF ht;obtain⟨fs',hfs,_⟩:=qpz hk;subst hfs;have hv1:=hv0;unfold Value.okWide at hv1;rw[hd]at hv1;obtain⟨cs,rfl,_⟩:=hv1;exact strct hl hc
   ·rename_i l' c k e sz a2 a3 ht;obtain⟨d',hd,hk⟩:=ne hF ht;have:=qwe hk;subst this;have hv1:=hv0;unfold Value.okWide at hv1;rw[hd]at hv1;obtain⟨cs,rfl,_⟩:=hv1;exact strct hl hc
   ·cases hty
  obtain⟨x,gx,hV⟩:=key;exact⟨(x,a2),⟨gx,g2⟩,v,vs',rfl,hV,c2⟩
 where
 strct {W:World} {fr:Bool} {l' :TyL} {x:l'.den} {cs:Array Value} (hl:(Value.cells (.agg cs)).toList.length=(Ty.struct l').sz) (hc:∀f,f<(Ty.struct l').sz→∃u,(Value.cells (.agg cs)).toList[f]? =some u∧u.oneCell' =true∧Ty.C W (fun _=>False) (.struct l') x f u):
   VR (gr0 W) (qr7 fr (.struct l') x) (.agg cs):=by
  have hlen:(TyL.cells fr l' x).length=l'.sz:=TyL.cells_len fr l' x;have hcl:cs.toList.length=l'.sz:=hl;refine⟨cs.toList,by simp,ir.of (by rw[hcl,hlen]) (fun j A u hA hu=> ?_),fun u hu=> ?_⟩
  ·have hj:j<l'.sz:=by rw[←hlen];exact(List.getElem?_eq_some_iff.1 hA).1
   obtain⟨y,hy,_,h2⟩:=hc j hj;have hy' :cs.toList[j]? =some y:=by simpa[Value.cells]using hy
   rw[hu]at hy';cases hy';have h3:=(Ty.C_iff (gr0 W) fr (.struct l') x j u hj).1 (qyo h2 fr);have e:(Ty.cells fr (.struct l') x).getD j .any=A:=by
    have hA' :(Ty.cells fr (.struct l') x)[j]? =some A:=hA;rw[List.getD_eq_getElem?_getD,hA'];rfl
   rw[e]at h3;exact h3
  ·obtain⟨i,hi,hiu⟩:=List.getElem_of_mem hu;obtain⟨y,hy,h1,_⟩:=hc i (by show i<l'.sz;omega);have hy' :cs.toList[i]? =some y:=by simpa[Value.cells]using hy
   rw[List.getElem?_eq_getElem hi,hiu]at hy';cases hy';exact h1
theorem qdb{H:Type}{enc:TypeId×Value→H}(hl:laidOutB P=true){W W' :World}{sp:Nat→Bool}(hb:Below W.heap.size W W'):∀{ts:List TypeId} {vs:List Value} {ds:List (DataW H)} {ps:List MemPlace},
  ts.all (fun t=>P.readableRec t&&decide (t<P.types.size))=true→DataW.TrodAll enc P W 0 (fun _=>true) true ts vs ds ps→(∀x∈ps,x.block<W.heap.size)→(∀x∈ps,sp x.block=true)→DataW.TrodAll enc P W' 0 sp true ts vs ds ps
 |[],[],[],_,_,h,_,_=>h
 |[],_::_,_,_,_,h,_,_=>h.elim
 |[],[],_::_,_,_,h,_,_=>h.elim
 |_::_,[],_,_,_,h,_,_=>h.elim
 |_::_,_::_,[],_,_,h,_,_=>h.elim
 |t::ts,v::vs,d::ds,ps,hr,h,hlt,hsp=>by
  obtain⟨p,q,h1,h2,e⟩:=h;subst e;simp only[List.all_cons,Bool.and_eq_true,decide_eq_true_eq]at hr;exact⟨p,q,WideElems.Trod_stays hl hr.1.1 hr.1.2 h1 (fun x hx=>hb.same (hlt x (List.mem_append_left _ hx))) (fun x hx=>hsp x (List.mem_append_left _ hx)),
   qdb hl hb hr.2 h2 (fun x hx=>hlt x (List.mem_append_right _ hx)) (fun x hx=>hsp x (List.mem_append_right _ hx)),rfl⟩
theorem qk8{H:Type}{enc:TypeId×Value→H}{f:Func}{s:ChangeSpec}{apart fresh handsOn again:Bool}{W W' :World}{args:Array Value}{v:Value}{ds gs:List (DataW H)}{before pa pv:List MemPlace}
  (hW:DataW.Whole enc P f.params.toList s.vars apart W args.toList ds gs before)
  (hres:∀(b:Nat) (sp:Nat→Bool) (hd:Bool),DataW.TrodAll enc P W' b sp hd f.resultTypes.toList (v.resultList f.resultTypes.size) (s.fn H (ds++gs)).results [])
  (hargs:∀sp:Nat→Bool,(∀p∈before,sp p.block=true)→DataW.TrodAll enc P W' 0 sp true f.params.toList args.toList (s.fn H (ds++gs)).args pa)
  (hvars:∀sp:Nat→Bool,(∀p∈before,sp p.block=true)→DataW.TrodVars enc P W' sp s.vars (s.fn H (ds++gs)).vars pv)
  (hps:before=pa++pv) (hb:Below W.heap.size W W')
  (hok:∀(j:Nat) (t:TypeId) (r:Value),f.resultTypes[j]? =some t→(v.resultList f.resultTypes.size)[j]? =some r→Value.okWide P W' .any 0 t r):
  s.post enc P f apart fresh handsOn again W args v W' :=by
 have hlt:∀p∈before,p.block<W.heap.size:=fun p hp=>hW.lt p hp
 have hold:∀p∈before,(fun b=>decide (b<W.heap.size)) p.block=true:=fun p hp=>by simpa using hlt p hp
 refine⟨ds,gs,before,[],pa,pv,hW,hres _ _ _,hargs _ hold,hvars _ hold,World.keptBut_mono (fun p hp=>⟨hp,?_⟩) (hb.frame (·∈before)),fun _=> ?_⟩
 ·rw[hps,List.mem_append]at hp;exact Or.inr hp
 ·obtain⟨_,_,_,_,_,hz,hn⟩:=hW;refine⟨hok,_,_,([]++pa)++pv,⟨[]++pa,pv,trodAll_append (hargs _ (fun _ _=>rfl)) (hres _ _ _),hvars _ (fun _ _=>rfl),rfl,?_,?_⟩,?_⟩
  ·intro b off hp;have hin:MemPlace.cell b off∈before:=by rw[hps];simpa using hp
   rw[hb.frozen (hlt _ hin)];exact hz b off hin
  ·intro ha;have:=hn ha;rw[hps]at this;simpa using this
  ·intro p hp _;rw[hps];simpa using hp
theorem HR0(w:World):HR (fun _=>False) w (fun _=>none) (bc []) (vw []) w (fun _=>none):=by
 refine⟨(fun T T' g o o' h=>by cases h),(fun T p h=>by cases h),fun T v hv=> ?_,(fun T g o h=>by cases h),rfl,rfl,rfl,Nat.le_refl _,(fun _ _ _=>rfl),(fun _ _=>rfl),(fun t g o _ h=>by cases h),fun b h=>h.elim⟩;cases T<;>simp[vw]at hv
theorem qnj{H:Type}{enc:TypeId×Value→H}{F:FuncId}{f:Func}{s:ChangeSpec}{apart fresh handsOn again:Bool}{W:World}{args:Array Value}{ds:List (DataW H)}{before:List MemPlace}{rt:TypeId}{base:Nat}(hF:du P tt)
  {l:ShL} {m:l.den×sg []→Option Bool} (hM:MdlOK P F (aw l [] [] 1 ⟨[(0, .d true .bool)],[]⟩ (fun(b:Bool)=>((b,()),())) m)) (har:qd4 tt f.params.toList l=true) (htrue:∀a:l.den,l.good a→m (a,())=some true)
  (hl:laidOutB P=true) (hr:f.params.toList.all (fun t=>P.readableRec t&&decide (t<P.types.size))=true)
  (hv0:s.vars=[]) (hW:DataW.Whole enc P f.params.toList s.vars apart W args.toList ds [] before) (hA:DataW.TrodAll enc P W 0 (fun _=>true) true f.params.toList args.toList ds before)
  (hval:∀(j:Nat) t v,f.params[j]? =some t→args[j]? =some v→Value.okWide P W .any base t v)
  (hsr:(s.fn H (ds++[])).results=[.lit (.bool true)]) (hsa:(s.fn H (ds++[])).args=ds) (hsv:(s.fn H (ds++[])).vars=[]) (hrt:f.resultTypes= #[rt]) (hbt:P.underlying rt=some .bool):
  Calls P F args W fun e W' =>∃v,e= .returned v∧s.post enc P f apart fresh handsOn again W args v W' :=by
 obtain⟨a,ga,hc⟩:=qlm hF f.params.toList l har args.toList ds before hA (fun j t v hj hv=>hval j t v (by simpa using hj) (by simpa using hv));have hrun:=hM.run (a,()) true (htrue a ga) (fun _=>False) W (fun _=>none) (HR0 W) args.toList hc;rw[Array.toArray_toList]at hrun;refine hrun.mono fun e W' => ?_
 rintro⟨v,σ',rfl,hS,hV⟩;have hb:Below W.heap.size W W' :=⟨hS.os,hS.tape,hS.output,hS.size,fun k hk=>hS.blk k hk (by simp)⟩;have hv:v= .bool true:=hV;subst hv;refine⟨_,rfl,qk8 (pa:=before) (pv:=[]) hW ?_ ?_ ?_ (by simp) hb ?_⟩
 ·intro b sp hd;rw[hsr,hrt];exact trodAll_mk1 (shut_bool hbt true)
 ·intro sp hsp;rw[hsa];exact qdb hl hb hr hA (fun x hx=>hW.lt x hx) hsp
 ·intro sp hsp;rw[hsv,hv0];exact rfl
 ·exact ok_one hrt rfl (okWide_bool_mk hbt true)
theorem qhx{H:Type}{enc:TypeId×Value→H}{W:World}{sp:Nat→Bool}{held:Bool}:∀{ts:List TypeId} {vs:List Value} {ds:List (DataW H)} {ps:List MemPlace},DataW.TrodAll enc P W 0 sp held ts vs ds ps→ds.length=ts.length
 |[],vs,ds,ps,h=>by obtain⟨_,rfl,_⟩:=trodAll_nil h;rfl
 |t::ts,vs,ds,ps,h=>by
  obtain⟨v,vs',d,ds',p,q,rfl,rfl,rfl,h1,h2⟩:=trodAll_cons h;simp[qhx h2]
end
end Go.K
namespace Go.M
open Go.K
theorem vz{α:Type}{c:Bool}(h:c=true)(m:Option α):ba c m=m:=by subst h;rfl
theorem qin{α:Type}{c:Bool}(h:c=true)(a b:α):(bif c then a else b)=a:=by subst h;rfl
theorem qim{α:Type}{c:Bool}(h:c=false)(a b:α):(bif c then a else b)=b:=by subst h;rfl
theorem qx2{n:Int}(h1: -9223372036854775808≤n)(h2:n≤9223372036854775807):ng .i64 n=true:=by simp only[ng,Bool.and_eq_true,qsu];exact⟨h1,h2⟩
theorem xt{S E R:Type}{step:S→Option (LR S E R)}(st:Nat→S)(n:Nat)(hn:n<many)(p:Nat→Bool)(e:E)(r:R)
  (h:∀i,i<n→p i=true→step (st i)=some (.next (st (i+1)))) (hf:∀i,i<n→p i=false→step (st i)=some (.ret r)) (hd:step (st n)=some (.done e)):
  fh step (st 0)=some (bif (List.range n).all p then .inl e else .inr r):=by
 by_cases hall:∀i,i<n→p i=true
 ·have:(List.range n).all p=true:=by simpa using hall
  rw[this];exact u6 st n hn (.inl e) (fun i hi=>h i hi (hall i hi)) hd
 ·have hex:∃i,i<n∧p i=false:=by
   refine Classical.byContradiction fun hne=>hall fun i hi=> ?_
   cases hp:p i with
   |true=>rfl
   |false=>exact absurd ⟨i,hi,hp⟩ hne
  have hmin:∃k,k<n∧p k=false∧∀i,i<k→p i=true:=by
   obtain⟨i,hi,hp⟩:=hex
   induction i using Nat.strongRecOn with
   |_ i ih=>
    by_cases hlow:∀j,j<i→p j=true
    ·exact⟨i,hi,hp,hlow⟩
    ·have:∃j,j<i∧p j=false:=by
      refine Classical.byContradiction fun hne=>hlow fun j hj=> ?_
      cases hq:p j with
      |true=>rfl
      |false=>exact absurd ⟨j,hj,hq⟩ hne
     obtain⟨j,hj,hq⟩:=this;exact ih j hj (by omega) hq
  obtain⟨k,hk,hp,hlow⟩:=hmin;have:(List.range n).all p=false:=by
   rw[List.all_eq_false];exact⟨k,by simpa using hk,by simp[hp]⟩
  rw[this];exact qdo st k (by omega) (.ret r) (.inr r) rfl (fun i hi=>h i (by omega) (hlow i hi)) (hf k hk hp)
theorem qso{α:Type}(xs:List α)(i:Nat)(d:α)(h:i<xs.length):xs.getD i d=xs[i]:=by simp[List.getD_eq_getElem?_getD,h]
theorem qwc{α:Type}{l:List α}{x:α}(d:α)(h:x∈l):∃i,i<l.length∧l.getD i d=x:=by
 obtain⟨i,hi,rfl⟩:=List.getElem_of_mem h;exact⟨i,hi,qso l i d hi⟩
theorem j1{α:Type}{l:List α}{i:Nat}(d:α)(h:i<l.length):l.getD i d∈l:=by
 rw[qso l i d h];exact List.getElem_mem h
theorem q0k{α:Type}{i:Int}{n:Nat}{m:Option α}(h0:0≤i)(h1:i<(n:Int)):ba (ix i n) m=m:=vz (by simp[ix,h0,h1]) m
theorem qd8{α:Type}{e:Int}{m:Option α}(h0: -9223372036854775808≤e)(h1:e≤9223372036854775807):ba (ng .i64 e) m=m:=vz (qx2 h0 h1) m
theorem qo8{α:Type}{n b:Nat}{m:Option α}(h0:n≤9223372036854775807)(h1:n*b≤140737488355328):ba (room n b) m=m:=vz (by simp[room,h0,h1]) m
theorem qsj{α:Type}{l h:Int}{n:Nat}{m:Option α}(h0:0≤l)(h1:l≤h)(h2:h≤(n:Int)):ba (cut l h n) m=m:=vz (by simp[cut,h0,h1,h2]) m
theorem q0l{α:Type}{l c:Int}{b:Nat}{m:Option α}(h0:0≤l)(h1:l≤c)(h2:(b:Int)*c≤281474976710656)(h3:c≤9223372036854775807):ba (qq9 l c b) m=m:=vz (by simp[qq9,h0,h1,h2,h3]) m
theorem q0m{α:Type}{a b:Int}{m:Option α}(h:a≠b):ba (!decide (a=b)) m=m:=vz (by simp[h]) m
theorem qu8{α:Type}{a b:Int}{x y:α}(h:a<b):(bif decide (a<b)then x else y)=x:=qin (by simp[h]) x y
theorem qsg{α:Type}{a b:Int}{x y:α}(h:b≤a):(bif decide (a<b)then x else y)=y:=qim (by simp;omega) x y
theorem q0c{α:Type}{a b:Int}{x y:α}(h:a≤b):(bif decide (a≤b)then x else y)=x:=qin (by simp[h]) x y
theorem qxg{α:Type}{a b:Int}{x y:α}(h:b<a):(bif decide (a≤b)then x else y)=y:=qim (by simp;omega) x y
theorem q0b{α:Type}{a b:Int}{x y:α}(h:a=b):(bif decide (a=b)then x else y)=x:=qin (by simp[h]) x y
theorem qxf{α:Type}{a b:Int}{x y:α}(h:a≠b):(bif decide (a=b)then x else y)=y:=qim (by simp[h]) x y
theorem q0d{α:Type}{a b:Int}{x y:α}(h:a≠b):(bif !decide (a=b)then x else y)=x:=qin (by simp[h]) x y
theorem qxh{α:Type}{a b:Int}{x y:α}(h:a=b):(bif !decide (a=b)then x else y)=y:=qim (by simp[h]) x y
theorem qxi{α:Type}{c:Bool}{x y:α}:(bif !c then x else y)=(bif c then y else x):=by cases c<;>rfl
theorem qtq{α:Type}{x y:α}:(bif true then x else y)=x:=rfl
theorem qql{α:Type}{x y:α}:(bif false then x else y)=y:=rfl
end Go.M
namespace Go.M
open Go.K
theorem uk{n:Nat}(h:n≤9223372036854775807):n<many:=by unfold many;omega
theorem bh(i:Nat):((i:Int)+1)=((i+1:Nat):Int):=by omega
abbrev ch{α:Type}(N:Nat)(f:Nat→α):List α:=(List.range N).map f
end Go.M
namespace Go.M
open Go.K
def nc{α:Type}(q:α→Bool):List α→Option Nat
 |[]=>none
 |a::l=>bif q a then some 0 else(nc q l).map (·+1)
def qej{α:Type}(q:α→Bool)(l:List α):Int:=match nc q l with|some i=>(i:Int)|none=> -1
theorem qbs{α:Type}{q:α→Bool}(d:α):∀{l:List α} {i:Nat},nc q l=some i→i<l.length∧q (l.getD i d)=true∧∀j,j<i→q (l.getD j d)=false
 |[],i,h=>by cases h
 |a::l,i,h=>by
  unfold nc at h;cases hq:q a with
  |true=>
   rw[hq]at h;cases h;exact⟨by simp,hq,fun j hj=>by omega⟩
  |false=>
   rw[hq]at h;cases hf:nc q l with
   |none=>rw[hf]at h;cases h
   |some k=>
    rw[hf]at h;cases h;obtain⟨h1,h2,h3⟩:=qbs d hf;refine⟨by simp;omega,h2,fun j hj=> ?_⟩;have hj' :j<k+1:=hj;cases j with
    |zero=>exact hq
    |succ j=>exact h3 j (by omega)
theorem qf8{α:Type}{q:α→Bool}:∀{l:List α},nc q l=none→∀x∈l,q x=false
 |[],_,x,hx=>by simp at hx
 |a::l,h,x,hx=>by
  unfold nc at h;cases hq:q a with
  |true=>rw[hq]at h;cases h
  |false=>
   rw[hq]at h;cases hf:nc q l with
   |some k=>rw[hf]at h;cases h
   |none=>
    rcases List.mem_cons.1 hx with rfl|hx
    ·exact hq
    ·exact qf8 hf x hx
theorem qag{α:Type}(q:α→Bool):∀l:List α,(nc q l).isSome=l.any q
 |[]=>rfl
 |a::l=>by
  unfold nc;rw[List.any_cons,←qag q l];cases q a with
  |true=>rfl
  |false=>cases nc q l<;>rfl
theorem qr{α:Type}(q:α→Bool)(l:List α):decide ((0:Int)≤qej q l)=l.any q:=by
 rw[←qag];unfold qej;cases nc q l with
 |none=>rfl
 |some i=>simp
theorem qv0{α:Type}(q:α→Bool)(l:List α):decide (qej q l<(0:Int))= !l.any q:=by
 rw[←qag];unfold qej;cases nc q l with
 |none=>rfl
 |some i=>simp
theorem qx1{α:Type}{q:α→Bool}{l:List α}(d:α)(h:0≤qej q l):(qej q l).toNat<l.length∧q (l.getD (qej q l).toNat d)=true∧∀j,j<(qej q l).toNat→q (l.getD j d)=false:=by
 unfold qej at h⊢;cases hf:nc q l with
 |none=>rw[hf]at h;simp at h
 |some i=>
  simp only[Int.toNat_natCast];exact qbs d hf
def z7{Rr:Type}(g:Nat→Rr):Option Nat→Unit⊕Rr
 |some i=> .inr (g i)
 |none=> .inl ()
theorem lw{α:Type}{b:Bool}{x y:α}:(bif b then some x else some y)=some (bif b then x else y):=by cases b<;>rfl
theorem fj{α Rr:Type}{step:Int→Option (LR Int Unit Rr)}(l:List α)(d:α)(q:α→Bool)(g:Nat→Rr)(hl:l.length≤9223372036854775806)
  (h:∀i:Nat,i<l.length→step (i:Int)=some (bif q (l.getD i d)then .ret (g i)else .next ((i+1:Nat):Int))) (hd:step (l.length:Int)=some (.done ())):
  fh step 0=some (z7 g (nc q l)):=by
 cases hf:nc q l with
 |none=>
  refine u6 (fun i:Nat=>(i:Int)) l.length (by unfold many;omega) (.inl ()) (fun i hi=> ?_) hd;rw[h i hi,qf8 hf _ (j1 d hi)];rfl
 |some k=>
  obtain⟨h1,h2,h3⟩:=qbs d hf;refine qdo (fun i:Nat=>(i:Int)) k (by unfold many;omega) (.ret (g k)) (.inr (g k)) rfl (fun i hi=> ?_) ?_
  ·rw[h i (by omega),h3 i hi];rfl
  ·rw[h k h1,h2];rfl
theorem sw{α Rr:Type}{step:Int→Option (LR Int Unit Rr)}(l:List α)(d:α)(q:α→Bool)(c:Rr)(hl:l.length≤9223372036854775806)
  (h:∀i:Nat,i<l.length→step (i:Int)=some (bif q (l.getD i d)then .ret c else .next ((i+1:Nat):Int))) (hd:step (l.length:Int)=some (.done ())):
  fh step 0=some (bif l.any q then .inr c else .inl ()):=by
 rw[fj l d q (fun _=>c) hl h hd,←qag];cases nc q l<;>rfl
theorem mb{α:Type}(q:α→Bool)(l:List α):lk (z7 (fun i=>(i:Int)) (nc q l)) (fun _=>some (-1:Int)) (fun r=>some r)=some (qej q l):=by
 unfold qej;cases nc q l<;>rfl
end Go.M
namespace Go.K
open Go.M Go.RowKit
def q5a:Nat→Nat→List Bool
 |0,_=>[]
 |k+1,n=>bif Nat.ble n 1 then []else Nat.beq (n % 2) 1::q5a k (n/2)
def jc(f:Func)(p:Nat):Code:=qr3 (qmp f) (q5a 80 p)
def lc(id:Nat)(f:Func)(p:Nat):Code:= .block id (.loop (jc f p))
section
variable {P : Program} {tt : TT} {Rf : Type}
structure CtxM (P : Program) (X : Ctx Rf) : Prop where
 ok : CtxOK P X
 mix : P.follows .mixedOrders = true
theorem m0:qor P []:=trivial
theorem mC{f:FuncId}{M:Mdl}{l:List (FuncId×Mdl)}(h:MdlOK P f M)(t:qor P l):qor P ((f,M)::l):=⟨h,t⟩
theorem n5{N:Nat}{wr dt:Bool}{kp:List Bool}{l:List (FuncId×Mdl)}{Λ:Nat→Option (Summ Rf)}{res:TS→Option Rf}(hF:du P tt)(hm:P.follows .mixedOrders=true)(h:qor P l):CtxM P ⟨N,tt,wr,dt,kp,mq l,Λ,res⟩:=⟨⟨hF,q15 h.all⟩,hm⟩
theorem s0{X:Ctx Rf}:qh0 P X []:=trivial
theorem sC{X:Ctx Rf}{i:Nat}{c:Code}{l:List (Nat×Code)}(h:ct P X i c)(t:qh0 P X l):qh0 P X ((i,c)::l):=⟨h,t⟩
theorem lp{X:Ctx Rf}{n id:Nat}{f:Func}{p:Nat}{shI shE:Shp}{C S CE E:Type}{un:shI.den→C×S}{mkE:CE→E→shE.den}{pE:C→CE}
  {stepK:{R:Type}→C→S→(S→Option R)→(E→Option R)→(Rf→Option R)→Option R}
  (hΛ:X.Λ n=some (cu Rf X.N X.kp shI un shE mkE pE stepK)) (hX:CtxM P X) (ann:Ann) {l:List (Nat×Code)} (hl:qh0 P X l) (mk:C→S→shI.den) (unE:shE.den→CE×E)
  (hs:qp (jc f p) ann=l:=by kernel_rfl) (hmk:∀x,mk (un x).1 (un x).2=x:=by intro _;kernel_rfl) (hmkE:∀y,mkE (unE y).1 (unE y).2=y:=by intro _;kernel_rfl)
  (hpar:∀(R:Type) (K:C→S→Option R) (D:CE→E→Option R) (T:Rf→Option R) (c:C) (a:S),
   den X (jc f p) ann (shI.enc (mk c a)) (fun s' =>match shI.dec X.N X.kp s' with|some x=>K (un x).1 (un x).2|none=>none)
    (fun id' s' =>bif Nat.beq id' id then(match shE.dec X.N X.kp s' with|some y=>D (unE y).1 (unE y).2|none=>none)else none) T=stepK c a (K c) (D (pE c)) T:=by intro R K D T c a;kernel_rfl):
  ct P X n (lc id f p):=
 qx5 hX.ok hX.mix (qh0.all hs hl) hΛ hmk hmkE hpar
theorem jn{X:Ctx Rf}{n:Nat}{f:Func}{p:Nat}{shI shE:Shp}{A CE E:Type}{un:shI.den→A}{mkE:CE→E→shE.den}{pE:A→CE}
  {stepK:{R:Type}→A→(E→Option R)→(Rf→Option R)→Option R}
  (hΛ:X.Λ n=some (tp Rf X.N X.kp shI un shE mkE pE stepK)) (hX:CtxM P X) (ann:Ann) {l:List (Nat×Code)} (hl:qh0 P X l) (mk:A→shI.den) (unE:shE.den→CE×E)
  (hs:qp (jc f p) ann=l:=by kernel_rfl) (hmk:∀x,mk (un x)=x:=by intro _;kernel_rfl) (hmkE:∀y,mkE (unE y).1 (unE y).2=y:=by intro _;kernel_rfl)
  (hpar:∀(R:Type) (D:CE→E→Option R) (T:Rf→Option R) (a:A),
   den X (jc f p) ann (shI.enc (mk a)) (fun s' =>match shE.dec X.N X.kp s' with|some y=>D (unE y).1 (unE y).2|none=>none) (fun _ _=>none) T=stepK a (D (pE a)) T:=by intro R D T c;kernel_rfl):
  ct P X n (jc f p):=
 qx3 hX.ok hX.mix (qh0.all hs hl) hΛ hmk hmkE hpar
theorem n4{f:FuncId}{fn:Func}(hf:P.funcs[f]? =some fn){B:Type}{X:Ctx B}{rs:List ResultVar}{l:ShL}{objs:List Hs}{sh:Shp}{un:sh.den→B}{mk:B→sh.den}{m:l.den×sg objs→Option B}
  (hres:X.res=cz X.N X.tt X.kp rs sh un) (hX:CtxM P X) (ann:Ann) {sl:List (Nat×Code)} (hsl:qh0 P X sl)
  (hname:(fn.name== "runtime.NumGoroutine")=false:=by kernel_rfl) (hb:fn.body=some (qmp fn):=by kernel_rfl) (hN:fn.ntmps=X.N:=by kernel_rfl)
  (hrs:fn.results=rs.toArray:=by kernel_rfl) (hmk:∀x,mk (un x)=x:=by intro _;kernel_rfl) (hs:qp (qmp fn) ann=sl:=by kernel_rfl) (hl:Nat.ble l.len X.N=true:=by kernel_rfl) (hfr:sh.frB=true:=by kernel_rfl)
  (hden:∀a,den X (qmp fn) ann ⟨qec 0 (l.enc a.1),ez objs a.2⟩ X.res (fun _ _=>none) some=m a:=by intro a;kernel_rfl):MdlOK P f (aw l objs X.kp rs.length sh mk m):=
 q48 hf hname hb hN hrs hmk hres hX.ok hX.mix (qh0.all hs hsl) (Nat.le_of_ble_eq_true hl) hfr hden
end
end Go.K
namespace Go.K
open Go.M
theorem rs:
  (∀{α:Type} {i:Int} {n:Nat} {m:Option α},0≤i→i<(n:Int)→ba (ix i n) m=m)∧
  (∀{α:Type} {e:Int} {m:Option α},-9223372036854775808≤e→e≤9223372036854775807→ba (ng .i64 e) m=m)∧
  (∀{α:Type} {n b:Nat} {m:Option α},n≤9223372036854775807→n*b≤140737488355328→ba (room n b) m=m)∧
  (∀{α:Type} {l h:Int} {n:Nat} {m:Option α},0≤l→l≤h→h≤(n:Int)→ba (cut l h n) m=m)∧
  (∀{α:Type} {l c:Int} {b:Nat} {m:Option α},0≤l→l≤c→(b:Int)*c≤281474976710656→c≤9223372036854775807→ba (qq9 l c b) m=m)∧
  (∀{α:Type} {a b:Int} {m:Option α},a≠b→ba (!decide (a=b)) m=m)∧
  (∀{α:Type} {a b:Int} {x y:α},a<b→(bif decide (a<b)then x else y)=x)∧
  (∀{α:Type} {a b:Int} {x y:α},b≤a→(bif decide (a<b)then x else y)=y)∧
  (∀{α:Type} {a b:Int} {x y:α},a≤b→(bif decide (a≤b)then x else y)=x)∧
  (∀{α:Type} {a b:Int} {x y:α},b<a→(bif decide (a≤b)then x else y)=y)∧
  (∀{α:Type} {a b:Int} {x y:α},a=b→(bif decide (a=b)then x else y)=x)∧
  (∀{α:Type} {a b:Int} {x y:α},a≠b→(bif decide (a=b)then x else y)=y)∧
  (∀{α:Type} {a b:Int} {x y:α},a≠b→(bif !decide (a=b)then x else y)=x)∧
  (∀{α:Type} {a b:Int} {x y:α},a=b→(bif !decide (a=b)then x else y)=y)∧
  (∀{α:Type} {c:Bool} {x y:α},(bif !c then x else y)=(bif c then y else x))∧
  (∀{α:Type} {x y:α},(bif true then x else y)=x)∧(∀{α:Type} {x y:α},(bif false then x else y)=y)∧
  (∀{α β:Type} (a:α) (k:α→Option β),bnd (some a) k=k a)∧
  (∀{E R β:Type} (e:E) (k1:E→β) (k2:R→β),lk (.inl e) k1 k2=k1 e)∧(∀{E R β:Type} (e:R) (k1:E→β) (k2:R→β),lk (.inr e) k1 k2=k2 e)∧
  (∀n:Nat,Int.toNat (n:Int)=n)∧(∀h:Decidable True,@decide True h=true):=
 ⟨q0k,qd8,qo8,qsj,q0l,q0m,qu8,qsg,q0c,qxg,q0b,qxf,q0d,qxh,qxi,qtq,qql,bj,qv7,qv8,Int.toNat_natCast,fun h=> @decide_true h⟩
end Go.K
namespace Go.K
open Go.M Go.RowKit
end Go.K
namespace Go.K
open Go.M Go.RowKit
def qpb{α:Type}(i j:Int)(l:List α):Option (List α):=if 0≤i∧i≤j∧j≤(l.length:Int)then some (l.take i.toNat++l.drop j.toNat)else none
theorem qtz{α:Type}{i j:Int}{l b:List α}(h:qpb i j l=some b):0≤i∧i≤j∧j≤(l.length:Int)∧b=l.take i.toNat++l.drop j.toNat:=by
 unfold qpb at h;by_cases hc:0≤i∧i≤j∧j≤(l.length:Int)
 ·rw[if_pos hc]at h;exact⟨hc.1,hc.2.1,hc.2.2,(Option.some.inj h).symm⟩
 ·rw[if_neg hc]at h;cases h
theorem qvm{α:Type}(l:List α)(d:α)(i j k:Nat)(hij:i≤j)(hj:j≤l.length)(hk:k<l.length-(j-i)):(l.take i++l.drop j).getD k d=l.getD (if k<i then k else k+(j-i)) d:=by
 have hl:(l.take i).length=i:=by rw[List.length_take];omega
 rw[List.getD_eq_getElem?_getD,List.getD_eq_getElem?_getD];split
 ·rw[List.getElem?_append_left (by omega),List.getElem?_take,if_pos (by assumption)]
 ·rw[List.getElem?_append_right (by omega),hl,List.getElem?_drop];congr 2;omega
theorem qvw{P:Program}{f:FuncId}{fn:Func}(hf:P.funcs[f]? =some fn)(hname:(fn.name== "runtime.NumGoroutine")=false)(hb:fn.body.isNone=false){ty:TypeId}{fr b1 b2:Bool}{its:List TypeId}{u:Ty}(hu:u.flat=true)(hp:0<u.sz)
  (h:∀(w:World) (g o c n i j:Nat) (cur:Array Value) (e:TypeId),w.heap[g]? =some (.cells cur e (0,0))→(∀t,t<c*u.sz→(w.cell? ⟨g,o+t,none⟩).isSome=true∧w.frozen? ⟨g,o+t,none⟩=false)→(∀t,t<n*u.sz→∃v,w.cell? ⟨g,o+t,none⟩=some v∧v.oneCell' =true)→n≤c→c≤maxLen→i≤j→j≤n→g<w.heap.size→
   Calls P f #[.slice (some ⟨g,o,none⟩) n c, .int .i64 i, .int .i64 j] w fun e' w' =>e' = .returned (.slice (some ⟨g,o,none⟩) (n-(j-i)) c)∧w'.os=w.os∧w'.tape=w.tape∧w'.output=w.output∧w.heap.size≤w'.heap.size∧(∀b,b≠g→b<w.heap.size→w'.heap[b]? =w.heap[b]?)∧
    (∃cur',w'.heap[g]? =some (.cells cur' e (0,0))∧cur'.size=cur.size)∧∀t,t<(n-(j-i))*u.sz→w'.cell? ⟨g,o+t,none⟩=w.cell? ⟨g,o+(if t<i*u.sz then t else t+(j-i)*u.sz),none⟩)
  (h0:∀(w:World) (a:Option Addr),Calls P f #[.slice a 0 0, .int .i64 0, .int .i64 0] w fun e w' =>e= .returned (.slice a 0 0)∧w' =w):
  MdlOK P f (aw (.cons (.own 0) (.cons (.d b1 (.int .i64)) (.cons (.d b2 (.int .i64)) .nil))) [.arr ty (.fz fr) its u] [false] 1 ⟨[(0, .own 0)],[.arr ty (.fz fr) its u]⟩ (B:=List u.den) (fun b=>(((),()),(b,()))) (fun a=>qpb a.1.2.1 a.1.2.2.1 a.2.1)):=by
 have hvw:∀ys:List u.den,vw [TOb.arr ty (.fz fr) its u ys] (.o 0)=some ⟨ty,u.sz,ys.length,fun i f=>bg 0 (.fz fr) u ys i f⟩:=fun _=>rfl
 have honly:∀(ys:List u.den) (T:TG) (v:Vw),vw [TOb.arr ty (.fz fr) its u ys] T=some v→T= .o 0:=fun ys T v hT=>by
  cases T with
  |o t=>cases t with
   |zero=>rfl
   |succ t=>cases hT
  |r t i f=>cases t with
   |zero=>cases hT
   |succ t=>cases hT
 suffices core:∀(i j:Int) (xs b:List u.den),qpb i j xs=some b→∀(U:Nat→Prop) (w:World) (σ:Pl),HR U w σ (bc [false]) (vw [TOb.arr ty (.fz fr) its u xs]) w σ→∀vs:List Value,ir (gr U (vw [TOb.arr ty (.fz fr) its u xs]) w σ) [.own (.o 0), .int .i64 i, .int .i64 j] vs→
   Calls P f vs.toArray w fun e w' =>∃v σ',e= .returned v∧HR U w σ (bc [false]) (vw [TOb.arr ty (.fz fr) its u b]) w' σ' ∧VR (gr U (vw [TOb.arr ty (.fz fr) its u b]) w' σ') (.own (.o 0)) v by
  refine⟨⟨fn,hf,hname,hb⟩,fun a b hm U w σ hHR vs hvs=>core a.1.2.1 a.1.2.2.1 a.2.1 b hm U w σ hHR vs hvs,qno,fun a b _=> ?_⟩;refine⟨rfl,?_⟩;show((fr||u.flat)&&true)=true;rw[hu,Bool.or_true];rfl
 intro i j xs b hm U w σ hHR vs hvs;obtain⟨hi0,hij,hjl,rfl⟩:=qtz hm;obtain⟨I,rfl⟩:=Int.eq_ofNat_of_zero_le hi0;obtain⟨J,rfl⟩:∃J:Nat,j=(J:Int):=Int.eq_ofNat_of_zero_le (Int.le_trans hi0 hij);have hIJ:I≤J:=by omega
 have hJl:J≤xs.length:=by omega
 clear hi0 hij hjl hm;have hlen:(xs.take I++xs.drop J).length=xs.length-(J-I):=by
  rw[List.length_append,List.length_take,List.length_drop,Nat.min_eq_left (Nat.le_trans hIJ hJl)];omega
 obtain⟨v,r1,rfl,hv,hr1⟩:=hvs;obtain⟨vi,r2,rfl,hvi,hr2⟩:=hr1;obtain⟨vj,r3,rfl,hvj,hr3⟩:=hr2;have hr3:r3=[]:=hr3;have hvi:vi= .int .i64 (I:Int):=hvi;have hvj:vj= .int .i64 (J:Int):=hvj;subst hr3 hvi hvj;obtain⟨n,sz,hI,hS⟩:∃n sz,ae (vw [TOb.arr ty (.fz fr) its u xs]) (.o 0)=some (n,sz)∧SlR w σ (.o 0) sz 0 n v:=hv;have hI' :ae (vw [TOb.arr ty (.fz fr) its u xs]) (.o 0)=some (xs.length,u.sz):=rfl;rw[hI']at hI;have hI:=Option.some.inj hI;have hn:n=xs.length:=(congrArg Prod.fst hI).symm;have hsz:sz=u.sz:=(congrArg Prod.snd hI).symm;subst hn hsz;have hk0:∀t,bc [false] t=true→False:=fun t ht=>by
  cases t with
  |zero=>cases ht
  |succ t=>cases ht
 rcases hS with⟨a,rfl,hz⟩|⟨g,o,c,cur,e,hσ,rfl,hnc,hcm,hh,hfit⟩
 ·have hI0:I=0:=by omega
  have hJ0:J=0:=by omega
  subst hI0 hJ0;have hx:xs=[]:=List.eq_nil_of_length_eq_zero hz;subst hx;refine(h0 w a).mono ?_;rintro e w' ⟨rfl,rfl⟩;exact⟨_,σ,rfl,hHR,0,u.sz,rfl, .inl ⟨a,rfl,rfl⟩⟩
 ·have hOR:=hHR.obj _ _ (hvw xs);rw[hσ]at hOR;have hgl:g<w.heap.size:=(Array.getElem?_eq_some_iff.1 hh).1;have hcell:∀t,w.cell? ⟨g,o+t,none⟩=cur[o+t]? :=fun t=>by simp[World.cell?,hh]
  have hfit:cur.size=o+c*u.sz:=by rw[hfit,Nat.zero_add]
  obtain⟨cur2,c2,hh2,hfit2,hnc2,_⟩:=hOR.cells (.inl hp);have hh2:w.heap[g]? =some (.cells cur2 ty (0,0)):=hh2;rw[hh]at hh2;have hcu:cur=cur2∧e=ty:=by
   injection hh2 with hh2
   injection hh2 with h1 h2
   exact⟨h1,h2⟩
  obtain⟨rfl,rfl⟩:=hcu;have hat:∀k f,k<xs.length→f<u.sz→∃y,w.cell? ⟨g,o+(k*u.sz+f),none⟩=some y∧y.oneCell' =true∧VR (gr U (vw [TOb.arr e (.fz fr) its u xs]) w σ) (bg 0 (.fz fr) u xs k f) y:=fun k f hk hf=>hOR.at_ hk hf
  have hone:∀t,t<xs.length*u.sz→∃v,w.cell? ⟨g,o+t,none⟩=some v∧v.oneCell' =true:=fun t ht=>by
   obtain⟨y,y1,y2,_⟩:=hat (t/u.sz) (t % u.sz) ((Nat.div_lt_iff_lt_mul hp).2 ht) (Nat.mod_lt _ hp);rw[Nat.div_add_mod']at y1;exact⟨y,y1,y2⟩
  have hadd:o+0*u.sz=o:=by omega
  rw[hadd];refine(h w g o c xs.length I J cur e hh (fun t ht=>⟨?_,?_⟩) hone hnc hcm hIJ hJl hgl).mono ?_
  ·rw[hcell,Array.getElem?_eq_getElem (by omega)];rfl
  ·simp[World.frozen?,hh]
  ·rintro e' w' ⟨rfl,e1,e2,e3,e4,e5,⟨cur',e7,e8⟩,e6⟩;have hcell' :∀t,w'.cell? ⟨g,o+t,none⟩=cur'[o+t]? :=fun t=>by simp[World.cell?,e7]
   have hnew:∀k f,k<xs.length-(J-I)→f<u.sz→∃y,cur'[o+(k*u.sz+f)]? =some y∧y.oneCell' =true∧VR (gr U (vw [TOb.arr e (.fz fr) its u (xs.take I++xs.drop J)]) w' σ) (bg 0 (.fz fr) u (xs.take I++xs.drop J) k f) y:=fun k f hk hf=>by
    have hkk:(if k<I then k else k+(J-I))<xs.length:=by split<;>omega
    obtain⟨y,y1,y2,y3⟩:=hat _ f hkk hf;have hlt:k*u.sz+f<(xs.length-(J-I))*u.sz:=by
     have:=Nat.mul_le_mul_right u.sz (show k+1≤xs.length-(J-I) by omega);rw[Nat.add_mul,Nat.one_mul]at this;omega
    refine⟨y,?_,y2,?_⟩
    ·rw[←hcell',e6 _ hlt,←y1];congr 2;by_cases hkI:k<I
     ·have:=Nat.mul_le_mul_right u.sz (show k+1≤I by omega);rw[Nat.add_mul,Nat.one_mul]at this;rw[if_pos hkI,if_pos (by omega)]
     ·have:=Nat.mul_le_mul_right u.sz (show I≤k by omega);rw[if_neg hkI,if_neg (by omega),Nat.add_mul];omega
    ·rw[kw]at y3⊢;rw[qvm xs u.dft I J k hIJ hJl hk];exact(Ty.C_iff _ fr u _ f y hf).1 (Ty.C_flat u _ f y hu ((Ty.C_iff _ fr u _ f y hf).2 y3))
   refine⟨_,σ,rfl,⟨hHR.inj,fun T p hT=> ?_,fun T v hv=> ?_,fun T g o hT=>hHR.own T g o hT,e1,e2,e3,e4,fun b hb hσb=>e5 b (fun hbg=>hσb (.o 0) o (hbg▸hσ)) hb,fun _ _=>rfl,fun t g o ht hs=>absurd (hk0 t ht) id,hHR.ulow⟩,(xs.take I++xs.drop J).length,u.sz,rfl, .inr ⟨g,o,c,cur',e,hσ,by rw[hlen,hadd],by rw[hlen];omega,hcm,e7,by rw[e8,hfit,Nat.zero_add]⟩⟩
   ·obtain⟨v,hv⟩:=hHR.dom T p hT;rw[honly xs T v hv];exact⟨_,hvw _⟩
   ·have hT:=honly _ T v hv;subst hT;rw[hvw]at hv;have hv:=Option.some.inj hv;subst hv;rw[hσ];refine .inl ⟨.inl hp,cur',c,e7,by rw[e8,hfit],?_,fun k f hk hf=> ?_⟩
    ·show(xs.take I++xs.drop J).length≤c;rw[hlen];omega
    ·have hk:k<(xs.take I++xs.drop J).length:=hk;rw[hlen]at hk;exact hnew k f hk hf
end Go.K
