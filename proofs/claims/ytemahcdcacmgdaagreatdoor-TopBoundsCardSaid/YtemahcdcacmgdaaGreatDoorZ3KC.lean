/-
  A typed machine over the model's memory (part KC). No program is named.
-/
import Derived.Lib.AppendZeros
import Derived.Test.YtemahcdcacmgdaaGreatDoorZ3KB
set_option linter.all false
namespace Go.K
open Go.M Go.RowKit
section
variable {U : Nat → Prop} {w0 : World} {σ0 : Pl} {K : Nat → Bool} {N : Nat} {P : Program} {tt : TT}
theorem q1s(tg:Nat)(H:List TOb):(fun T' =>(vw H T').map (Vw.sb (b7 (.o tg))))=vw (ci (bh tg) H):=by
 funext T;rw[qs9 (fun i f=>rfl),qyw]
theorem ARel.setTo{S:Nat→TV}{a:Act}{w:World}{σ:Pl}{H1:List TOb}{tg:Nat}{T:TG}{v1:Vw}(hT:T.ob=tg)(h:ARel U w0 σ0 K N S (upd (vw H1) T v1) a w σ){ob' :TOb}
  (hI:∀T',T'.ob=tg→aj (vw (H1.set tg ob')) T' =aj (upd (vw H1) T v1) T')
  (hV:∀T' v',T'.ob=tg→vw (H1.set tg ob') T' =some v' →∃v,upd (vw H1) T v1 T' =some v∧v'.ty=v.ty∧(∀i f,i<v.n→f<v.sz→∀y,VR (gr U (upd (vw H1) T v1) w σ) (v.cs i f) y→VR (gr U (upd (vw H1) T v1) w σ) (v'.cs i f) y)∧(v.sz=0→v.n=0→HZ (gr U (upd (vw H1) T v1) w σ) (gr U (upd (vw H1) T v1) w σ) v v')):
  ARel U w0 σ0 K N S (vw (H1.set tg ob')) a w σ∧gr U (vw (H1.set tg ob')) w σ=gr U (upd (vw H1) T v1) w σ:=by
 have hi:aj (vw (H1.set tg ob'))=aj (upd (vw H1) T v1):=by
  funext T';by_cases e:T'.ob=tg
  ·exact hI T' e
  ·simp only[aj,du e,cr (show T' ≠T from fun e' =>e (by rw[e'];exact hT))]
 refine⟨h.tell hi (fun t v hv=>hv) (fun T' v' hv' => ?_),by simp only[gr,hi]⟩;by_cases e:T'.ob=tg
 ·exact hV T' v' e hv'
 ·rw[du e]at hv';exact⟨v',(cr (fun e' =>e (by rw[e'];exact hT))).trans hv',rfl,fun i f _ _ y hy=>hy,qg1 v'⟩
def qoj(P:Program)(U:Nat→Prop)(w0:World)(σ0:Pl)(K:Nat→Bool)(N:Nat)(s' :TS)(T:TG)(a:Act)(w:World)(st ty:TypeId)(vd sv:Value):Prop:=
 ∃v' w' σ',(Builtin.append_ #[st,st] ty #[vd,sv]).run P w= .ok v' w' ∧c7 U w0 σ0 K N s' a w' σ' ∧VR (gr U (vw s'.H) w' σ') (.own T) v'
structure ElOK (tt : TT) (st el : TypeId) (u : Ty) (ei : TI) : Prop where
 st : ∃ b1 b2 z1, tt st = some ⟨.slice el, b1, b2, z1⟩
 el : tt el = some ei
 sz : ei.sz = u.sz
 pos : 0 < u.sz
 z : ei.zero.length = ei.sz
theorem qsn{n b:Nat}(h:room n b=true):n≤maxLen∧n*b≤140737488355328:=by
 simp only[room,Bool.and_eq_true,decide_eq_true_eq]at h;unfold maxLen;omega
theorem jej(hF:c9 P tt){s:TS}{a:Act}{w:World}{σ:Pl}(h:c7 U w0 σ0 K N s a w σ){tg:Nat}{st ty el:TypeId}{u:Ty}{ei:TI}(hE:ElOK tt st el u ei){fr:Bool}{its:List TypeId}{xs:List u.den}(ho:s.H[tg]? =some (.arr el (.fz fr) its u xs))(hK:K tg=false)
  {off n:Nat} {vd:Value} (hd:SlR w σ (.o tg) u.sz off n vd) (hle:off+n≤xs.length) {fr' :Bool} {ys:List u.den} {sv:Value} (hs:tf (gr U (vw s.H) w σ) u.sz ys.length (fun i f=>(u.cells fr' (ys.getD i u.dft)).getD f .any) sv) (hroom:room (n+ys.length) ei.bytes=true):
  qoj P U w0 σ0 K N ⟨sbS (bh tg) s.S,(ci (bh tg) s.H).set tg (.arr el (.fz (fr&&fr')) its u ((xs.drop off).take n++ys))⟩ (.o tg) a w st ty vd sv:=by
 obtain⟨⟨b1,b2,z1,hst⟩,hel,hsz,hpos,hz⟩:=hE;obtain⟨sa,c,news,rfl,hl,hsa,h1,hsrc⟩:=hs.news hpos;obtain⟨hr1,hr2⟩:=qsn hroom;obtain⟨v',w',σ',hrun,hr,hm,hV⟩:=h.append hF (ty:=ty) hst hel (ax ho) rfl hsz hpos hz (fun t e=>by cases e;exact hK) hd hle (c:=c) hl hsa h1 hsrc hr1 hr2;refine⟨v',w',σ',hrun,?_⟩;rw[q1s]at hr hV hm;have hS:(fun t=>(bq s.S t).sb (b7 (.o tg)))=bq (sbS (bh tg) s.S):=by
  funext t;rw[ez,qyw]
 rw[hS]at hr;have ho1:(ci (bh tg) s.H)[tg]? =some (.arr el (.fz fr) its u xs):=rz ho;have hlt:tg<(ci (bh tg) s.H).length:=(List.getElem?_eq_some_iff.1 ho1).1;have hov:((ci (bh tg) s.H).set tg (.arr el (.fz (fr&&fr')) its u ((xs.drop off).take n++ys)))[tg]? =some (.arr el (.fz (fr&&fr')) its u ((xs.drop off).take n++ys)):=List.getElem?_set_self hlt;have hlen:((xs.drop off).take n++ys).length=n+ys.length:=by simp;omega
 obtain⟨hr',hG⟩:=ARel.setTo (tg:=tg) (T:= .o tg) (ob' := .arr el (.fz (fr&&fr')) its u ((xs.drop off).take n++ys)) rfl hr (fun T' e=>by
  cases T' with
  |o t=>simp only[TG.ob]at e;subst e;simp only[aj,ax hov,dj,Option.map_some,hlen,Vw.app]
  |r t i f=>simp only[TG.ob]at e;subst e;rw[show aj (upd (vw (ci (bh t) s.H)) (.o t) (Vw.app ⟨el,u.sz,xs.length,fun i f=>bx t (.fz fr) u xs i f⟩ (b7 (.o t)) off n ys.length (fun i f=>(u.cells fr' (ys.getD i u.dft)).getD f .any))) (.r t i f)=aj (vw (ci (bh t) s.H)) (.r t i f) by simp only[aj,cr (show TG.r t i f≠ .o t by simp)]];simp only[aj,jj hov,jj ho1,Md.isOwn];simp) (fun T' v1 e hv1=>by
  cases T' with
  |o t=>
   simp only[TG.ob]at e;subst e;rw[ax hov]at hv1;cases hv1;refine⟨_,dj _ _ _,rfl,fun i f hi hf y hy=> ?_,fun e _=>absurd (show u.sz=0 from e) (by omega)⟩;have hf2:f<u.sz:=hf;show VR _ (bx t (.fz (fr&&fr')) u ((xs.drop off).take n++ys) i f) y;rw[kf,←Ty.C_iff _ _ _ _ _ _ hf2];simp only[Vw.app]at hy;have hi2:i<n+ys.length:=hi;by_cases hin:i<n
   ·rw[if_pos hin,kf,Ty.cells_sb,←Ty.C_iff _ _ _ _ _ _ hf2]at hy;have e:((xs.drop off).take n++ys).getD i u.dft=xs.getD (off+i) u.dft:=by
     simp only[List.getD_eq_getElem?_getD];rw[List.getElem?_append_left (by simp;omega),List.getElem?_take,if_pos hin,List.getElem?_drop]
    rw[e];exact Ty.C_fr (fun e=>by simp at e;exact e.1) hy
   ·rw[if_neg hin,Ty.cells_sb,←Ty.C_iff _ _ _ _ _ _ hf2]at hy;have e:((xs.drop off).take n++ys).getD i u.dft=ys.getD (i-n) u.dft:=by
     simp only[List.getD_eq_getElem?_getD];rw[List.getElem?_append_right (by simp;omega)];congr 2;simp;omega
    rw[e];exact Ty.C_fr (fun e=>by simp at e;exact e.2) hy
  |r t i f=>simp only[TG.ob]at e;subst e;simp only[jj hov,Md.isOwn]at hv1;simp at hv1)
 exact⟨hr',by rw[hG];exact hV⟩
theorem c7.pushNil{s:TS}{a:Act}{w:World}{σ:Pl}(h:c7 U w0 σ0 K N s a w σ){n:Nat}(hfree:s.H[n]? =none∨s.H[n]? =some .gone)(hn:n≤s.H.length)(ty:TypeId)(md:Md)(its:List TypeId)(u:Ty):
  c7 U w0 σ0 K N ⟨s.S,ey s.H n (.arr ty md its u [])⟩ a w σ∧(∀A v,VR (gr U (vw s.H) w σ) A v→VR (gr U (vw (ey s.H n (.arr ty md its u []))) w σ) A v)∧σ (.o n)=none:=by
 have hvn:∀T,T.ob=n→vw s.H T=none:=by
  intro T hT;cases T with
  |o t=>simp only[TG.ob]at hT;subst hT;rcases hfree with e|e<;>simp[vw,e,vwO]
  |r t i f=>simp only[TG.ob]at hT;subst hT;rcases hfree with e|e<;>simp[vw,e,vwR]
 have hσn:∀T,T.ob=n→σ T=none:=by
  intro T hT;cases hq:σ T with
  |none=>rfl
  |some p=>
   obtain⟨v,hv⟩:=h.hr.dom T p hq;rw[hvn T hT]at hv;cases hv
 have hov:(ey s.H n (.arr ty md its u []))[n]? =some (.arr ty md its u []):=by rw[io _ _ _ hn,if_pos rfl]
 have hV:∀T,¬T.ob=n→vw (ey s.H n (.arr ty md its u [])) T=(vw s.H T).map (Vw.sb fun _=> .id):=fun T hT=>by rw[qk8];exact jea hn hT
 have hm:Mv (fun _=> .id) (gr U (vw s.H) w σ) (gr U (vw (ey s.H n (.arr ty md its u []))) w σ):=by
  refine⟨Nat.le_refl _,fun _ _ hx=>hx,fun _ _ _ hu=>hu,fun _ _ _=>rfl,fun T T' q ht hq=> ?_,fun T fr u xs q e=>by cases e⟩;rcases ht with⟨_,rfl⟩|ht
  ·have hT:¬T'.ob=n:=fun e=>by
    have hq:aj (vw s.H) T' =some q:=hq;simp only[aj,hvn T' e]at hq;cases hq
   exact⟨by show aj _ T' =_;rw[zh (hV T' hT)];exact hq,fun g o hg=>⟨hg,fun cur e hh=>⟨cur,hh,rfl⟩⟩⟩
  ·cases ht
 refine⟨ARel.re' (θ:=fun _=> .id) (S' :=bq s.S) (σ' :=σ) h (fun t=>t=n) (fun t=>(TV.sb_id _).symm) hV (fun _ _=>rfl) (fun _ _=>rfl) (fun T T' q hT _ hq=>by simp only[aj,hvn T hT]at hq;cases hq) (fun T fr u xs e=>by cases e)
  (fun T p hT hp=>by rw[hσn T hT]at hp;cases hp) (fun T T' g o o' hT _ h1=>by rw[hσn T hT]at h1;cases h1) (fun T p hT hp=>by rw[hσn T hT]at hp;cases hp) (fun t _ _=>rfl) (fun _ T v hT hv=> ?_),fun A v hv=> ?_,hσn (.o n) rfl⟩
 ·rw[hσn T hT];cases T with
  |o t=>simp only[TG.ob]at hT;subst hT;rw[ax hov]at hv;cases hv;rfl
  |r t i f=>simp only[TG.ob]at hT;subst hT;rw[jj hov]at hv;simp at hv
 ·have:=VR.mv hm A v hv;rwa[TV.sb_id]at this
theorem jvm(hF:c9 P tt){s:TS}{a:Act}{w:World}{σ:Pl}(h:c7 U w0 σ0 K N s a w σ){tg:Nat}{st ty el ty0:TypeId}{v:Ty}{ei:TI}(hE:ElOK tt st el v ei){its:List TypeId}{u:Ty}{xs:List u.den}(ho:s.H[tg]? =some (.arr ty0 .own its u xs)){i f:Nat}{zs:List v.den}
  (hin:dv u (xs.getD i u.dft) f=some ⟨v,zs⟩) (hty:its.getD f 0=el) {vd:Value} (hd:VR (gr U (vw s.H) w σ) (.own (.r tg i f)) vd) {ys:List v.den} {sv:Value} (hs:tf (gr U (vw s.H) w σ) v.sz ys.length (fun i f=>(v.cells true (ys.getD i v.dft)).getD f .any) sv)
  {x' :u.den} (hset:qva u (xs.getD i u.dft) f v (zs++ys)=some x') (hroom:room (zs.length+ys.length) ei.bytes=true):
  qoj P U w0 σ0 K N ⟨sbS (a8 tg) s.S,(ci (a8 tg) s.H).set tg (.arr ty0 (.hole i f) its u (xs.set i x'))⟩ (.r tg i f) a w st ty vd sv:=by
 obtain⟨⟨b1,b2,z1,hst⟩,hel,hsz,hpos,hz⟩:=hE;obtain⟨n,sz,hI,hd⟩:=hd;have hI:aj (vw s.H) (.r tg i f)=some (n,sz):=hI;have hi:i<xs.length:=by
  rcases Nat.lt_or_ge i xs.length with h' |h'
  ·exact h'
  ·simp only[aj,jj ho,show¬i<xs.length by omega,and_false,if_false]at hI;cases hI
 have hvk:=qfi ho rfl hi hin;simp only[aj,hvk,Option.map_some,Option.some.injEq,Prod.mk.injEq]at hI;obtain⟨rfl,rfl⟩:=hI;have hk:=h.kills (qk5 tg);have hG0:gr U (vw (ci (a8 tg) s.H)) w σ=gr U (vw s.H) w σ:=by simp only[gr,qd6]
 have ho1:(ci (a8 tg) s.H)[tg]? =some (.arr ty0 .own its u xs):=rz ho;have hvk1:=qfi ho1 rfl hi hin;rw[←hG0]at hs;obtain⟨sa,c,news,rfl,hl,hsa,h1,hsrc⟩:=hs.news hpos;obtain⟨hr1,hr2⟩:=qsn hroom;obtain⟨v',w',σ',hrun,hr,hm,hV⟩:=hk.append hF (ty:=ty) hst hel hvk1 hty hsz hpos hz (fun t e=>by cases e) (off:=0) hd (by simp) (c:=c) hl hsa h1 hsrc hr1 hr2;refine⟨v',w',σ',hrun,?_⟩;have hS:(fun t=>(bq (sbS (a8 tg) s.S) t).sb (b7 (.r tg i f)))=bq (sbS (a8 tg) s.S):=by
  funext t;rw[ez,TV.sb_sb (a8 tg) (b7 (.r tg i f)) (a8 tg) (x0 _ qk4)]
 have hr:ARel U w0 σ0 K N (fun t=>(bq (sbS (a8 tg) s.S) t).sb (b7 (.r tg i f))) _ a w' σ' :=hr;rw[hS]at hr;obtain⟨_,hin',hoth⟩:=qzv hset;have hlt:tg<(ci (a8 tg) s.H).length:=(List.getElem?_eq_some_iff.1 ho1).1;have hov:((ci (a8 tg) s.H).set tg (.arr ty0 (.hole i f) its u (xs.set i x')))[tg]? =some (.arr ty0 (.hole i f) its u (xs.set i x')):=List.getElem?_set_self hlt;have hkid:vw ((ci (a8 tg) s.H).set tg (.arr ty0 (.hole i f) its u (xs.set i x'))) (.r tg i f)=some ⟨its.getD f 0,v.sz,(zs++ys).length,fun j g=>(v.cells true ((zs++ys).getD j v.dft)).getD g .any⟩:=
  qfi hov rfl (by simpa using hi) (by rw[bz hi,if_pos rfl];exact hin')
 have hrow:∀i' f',(TG.r tg i' f')≠ .r tg i f→vw ((ci (a8 tg) s.H).set tg (.arr ty0 (.hole i f) its u (xs.set i x'))) (.r tg i' f')=vw (ci (a8 tg) s.H) (.r tg i' f'):=by
  intro i' f' hne;rw[jj hov,jj ho1,bz hi,List.length_set];simp only[Md.isOwn,true_and];split
  ·by_cases e:i' =i
   ·subst e;rw[if_pos rfl,qd7 (hoth f' (fun e=>hne (by rw[e])))]
   ·rw[if_neg e]
  ·rfl
 generalize hVV:(upd (fun T' =>(vw (ci (a8 tg) s.H) T').map (Vw.sb (b7 (.r tg i f)))) (.r tg i f) (Vw.app ⟨its.getD f 0,v.sz,zs.length,fun j g=>(v.cells true (zs.getD j v.dft)).getD g .any⟩ (b7 (.r tg i f)) 0 zs.length ys.length (fun i f=>(v.cells true (ys.getD i v.dft)).getD f .any)))=VV at hr hV hm;have hVk:VV (.r tg i f)=some (Vw.app ⟨its.getD f 0,v.sz,zs.length,fun j g=>(v.cells true (zs.getD j v.dft)).getD g .any⟩ (b7 (.r tg i f)) 0 zs.length ys.length (fun i f=>(v.cells true (ys.getD i v.dft)).getD f .any)):=by rw[←hVV];exact dj _ _ _
 have hVn:∀T,T≠ .r tg i f→VV T=(vw (ci (a8 tg) s.H) T).map (Vw.sb (b7 (.r tg i f))):=fun T hT=>by rw[←hVV];exact cr hT
 have hinfo:aj (vw ((ci (a8 tg) s.H).set tg (.arr ty0 (.hole i f) its u (xs.set i x'))))=aj VV:=by
  funext T;by_cases e:T= .r tg i f
  ·subst e;simp only[aj,hkid,hVk,Option.map_some,Vw.app,List.length_append]
  ·rw[show aj VV T=aj (vw (ci (a8 tg) s.H)) T from zh (hVn T e)];by_cases e2:T.ob=tg
   ·cases T with
    |o t=>simp only[TG.ob]at e2;subst e2;simp only[aj,ax hov,ax ho1,Option.map_some,List.length_set]
    |r t i' f' =>simp only[TG.ob]at e2;subst e2;simp only[aj,hrow i' f' e]
   ·simp only[aj,du e2]
 have hG:gr U (vw ((ci (a8 tg) s.H).set tg (.arr ty0 (.hole i f) its u (xs.set i x')))) w' σ' =gr U VV w' σ' :=by simp only[gr,hinfo]
 refine⟨hr.tell hinfo (fun t v hv=>hv) (fun T v1 hv1=> ?_),by rw[hG];exact hV⟩;by_cases e:T= .r tg i f
 ·subst e;rw[hkid]at hv1;cases hv1;refine⟨_,hVk,rfl,fun j g hj hg y hy=> ?_,fun e _=>absurd (show v.sz=0 from e) (by omega)⟩;show VR _ ((v.cells true ((zs++ys).getD j v.dft)).getD g .any) y;simp only[Vw.app,Nat.zero_add]at hy;by_cases hin2:j<zs.length
  ·rw[if_pos hin2,Ty.cells_sb]at hy;have e:(zs++ys).getD j v.dft=zs.getD j v.dft:=by
    simp only[List.getD_eq_getElem?_getD];rw[List.getElem?_append_left hin2]
   rw[e];exact hy
  ·rw[if_neg hin2,Ty.cells_sb]at hy;have e:(zs++ys).getD j v.dft=ys.getD (j-zs.length) v.dft:=by
    simp only[List.getD_eq_getElem?_getD];rw[List.getElem?_append_right (by omega)]
   rw[e];exact hy
 ·rw[hVn T e];by_cases e2:T.ob=tg
  ·cases T with
   |o t=>
    simp only[TG.ob]at e2;subst e2;rw[ax hov]at hv1;cases hv1;rw[ax ho1];refine⟨_,rfl,rfl,fun i' f' hi' hf' y hy=> ?_,fun _ e=>absurd (show xs.length=0 from e) (by omega)⟩;have hy:VR (gr U VV w' σ') ((bx t .own u xs i' f').sb (b7 (.r t i f))) y:=hy;show VR _ (bx t (.hole i f) u (xs.set i x') i' f') y;by_cases ei:i' =i∧f' =f
    ·obtain⟨rfl,rfl⟩:=ei;have:bx t (.hole i' f') u (xs.set i' x') i' f' = .any:=by
      unfold bx;simp only[Md.fr];rw[bz hi,if_pos rfl,qg2 hin'];simp
     rw[this]
     trivial
    ·rw[zn (o4 (fun e' =>ei (by cases e';exact⟨rfl,rfl⟩)))]at hy;have:bx t (.hole i f) u (xs.set i x') i' f' =bx t .own u xs i' f' :=by
      rw[←yb (t:=t) (md:= .own) (xs:=xs) (xs' :=xs.set i x') rfl]
      ·unfold bx;simp only[Md.fr];split
       ·rw[if_neg ei]
       ·rfl
      ·rw[bz hi];by_cases e3:i' =i
       ·subst e3;rw[if_pos rfl];exact .inl (hoth f' (fun e' =>ei ⟨rfl,e'⟩))
       ·rw[if_neg e3];exact .inl rfl
     rw[this];exact hy
   |r t i' f' =>
    simp only[TG.ob]at e2;subst e2;rw[hrow i' f' e]at hv1;rw[hv1];exact⟨_,rfl,rfl,fun j g _ _ y hy=>by
     have hy:VR (gr U VV w' σ') ((v1.cs j g).sb (b7 (.r t i f))) y:=hy;rwa[qcp hv1]at hy,fun _ _=>⟨⟨fun _=> .id,fun j g=>by show v1.cs j g=((v1.cs j g).sb _).sb _;rw[qcp hv1,TV.sb_id]⟩,fun j y hy=>by
     have hy:VR _ ((v1.cs j 1).sb _) y:=hy;rwa[qcp hv1]at hy⟩⟩
  ·rw[du e2]at hv1;rw[←qs9 (fun i' f' =>o4 (fun e' =>e2 (by cases e';rfl))),qdr (a8 tg) (b7 (.r tg i f)) (a8 tg) (x0 _ qk4)];exact⟨v1,hv1,rfl,fun j g _ _ y hy=>hy,qg1 v1⟩
theorem jns{α β:Type}(es:List (α×β))(i:Nat)(x:β)(j:Nat):(q1v es i x)[j]? =if j=i then(es[j]?).map (fun e=>(e.1,x))else es[j]? :=by
 unfold q1v;split
 ·rename_i e he;rw[List.getElem?_set];by_cases hj:i=j
  ·subst hj;have hlt:=(List.getElem?_eq_some_iff.1 he).1;rw[if_pos rfl,if_pos rfl,if_pos hlt,he];rfl
  ·rw[if_neg hj,if_neg (Ne.symm hj)]
 ·rename_i he;split
  ·rename_i hj;subst hj;rw[he];rfl
  ·rfl
theorem ji1{α β:Type}(es:List (α×β))(i:Nat)(x:β):(q1v es i x).length=es.length:=by
 unfold q1v;split
 ·exact List.length_set
 ·rfl
theorem jdm{α β:Type}(es:List (α×List β))(i:Nat)(x:List β)(hi:i<es.length)(j:Nat):qjs (q1v es i x) j=if j=i then x else qjs es j:=by
 unfold qjs;rw[jns];by_cases hj:j=i
 ·subst hj;rw[if_pos rfl,if_pos rfl,List.getElem?_eq_getElem hi];rfl
 ·rw[if_neg hj,if_neg hj]
theorem jtt(t:Nat)(kt:Ty){β:Type}(es:List (kt.den×β))(i:Nat)(x:β)(h:Option Nat)(j f:Nat):moC t kt (q1v es i x) h j f=moC t kt es h j f:=by
 unfold moC;rw[jns];by_cases hj:j=i
 ·rw[if_pos hj];cases es[j]? <;>rfl
 ·rw[if_neg hj]
theorem jz4(hF:c9 P tt){s:TS}{a:Act}{w:World}{σ:Pl}(h:c7 U w0 σ0 K N s a w σ){tg:Nat}{st ty el:TypeId}{kt v:Ty}{ei:TI}(hE:ElOK tt st el v ei){es:List (kt.den×List v.den)}(ho:s.H[tg]? =some (.mo kt v el es none)){i:Nat}
  (hi:i<es.length) {vd:Value} (hd:VR (gr U (vw s.H) w σ) (.own (.r tg i 0)) vd) {ys:List v.den} {sv:Value} (hs:tf (gr U (vw s.H) w σ) v.sz ys.length (fun i f=>(v.cells true (ys.getD i v.dft)).getD f .any) sv)
  (hroom:room ((qjs es i).length+ys.length) ei.bytes=true):
  qoj P U w0 σ0 K N ⟨sbS (a8 tg) s.S,(ci (a8 tg) s.H).set tg (.mo kt v el (q1v es i (qjs es i++ys)) (some i))⟩ (.r tg i 0) a w st ty vd sv:=by
 obtain⟨⟨b1,b2,z1,hst⟩,hel,hsz,hpos,hz⟩:=hE;obtain⟨n,sz,hI,hd⟩:=hd;have hI:aj (vw s.H) (.r tg i 0)=some (n,sz):=hI;generalize hzs:qjs es i=zs at hroom⊢;have hvk:vw s.H (.r tg i 0)=some ⟨el,v.sz,zs.length,fun j g=>(v.cells true (zs.getD j v.dft)).getD g .any⟩:=by
  rw[n5 ho,if_pos ⟨rfl,hi⟩,hzs]
 simp only[aj,hvk,Option.map_some,Option.some.injEq,Prod.mk.injEq]at hI;obtain⟨rfl,rfl⟩:=hI;have hk:=h.kills (qk5 tg);have hG0:gr U (vw (ci (a8 tg) s.H)) w σ=gr U (vw s.H) w σ:=by simp only[gr,qd6]
 have ho1:(ci (a8 tg) s.H)[tg]? =some (.mo kt v el es none):=by rw[fp,ho];rfl
 have hvk1:vw (ci (a8 tg) s.H) (.r tg i 0)=some ⟨el,v.sz,zs.length,fun j g=>(v.cells true (zs.getD j v.dft)).getD g .any⟩:=by
  rw[n5 ho1,if_pos ⟨rfl,hi⟩,hzs]
 rw[←hG0]at hs;obtain⟨sa,c,news,rfl,hl,hsa,h1,hsrc⟩:=hs.news hpos;obtain⟨hr1,hr2⟩:=qsn hroom;obtain⟨v',w',σ',hrun,hr,hm,hV⟩:=hk.append hF (ty:=ty) hst hel hvk1 rfl hsz hpos hz (fun t e=>by cases e) (off:=0) hd (by simp) (c:=c) hl hsa h1 hsrc hr1 hr2;refine⟨v',w',σ',hrun,?_⟩;have hS:(fun t=>(bq (sbS (a8 tg) s.S) t).sb (b7 (.r tg i 0)))=bq (sbS (a8 tg) s.S):=by
  funext t;rw[ez,TV.sb_sb (a8 tg) (b7 (.r tg i 0)) (a8 tg) (x0 _ qk4)]
 have hr:ARel U w0 σ0 K N (fun t=>(bq (sbS (a8 tg) s.S) t).sb (b7 (.r tg i 0))) _ a w' σ' :=hr;rw[hS]at hr;have hlt:tg<(ci (a8 tg) s.H).length:=(List.getElem?_eq_some_iff.1 ho1).1;generalize hob' :TOb.mo kt v el (q1v es i (zs++ys)) (some i)=ob';have hov:((ci (a8 tg) s.H).set tg ob')[tg]? =some (.mo kt v el (q1v es i (zs++ys)) (some i)):=by rw[List.getElem?_set_self hlt,hob']
 have hkid:vw ((ci (a8 tg) s.H).set tg ob') (.r tg i 0)=some ⟨el,v.sz,(zs++ys).length,fun j g=>(v.cells true ((zs++ys).getD j v.dft)).getD g .any⟩:=by
  rw[n5 hov,if_pos ⟨rfl,by rw[ji1];exact hi⟩,jdm es i _ hi,if_pos rfl]
 have hrow:∀i' f',(TG.r tg i' f')≠ .r tg i 0→vw ((ci (a8 tg) s.H).set tg ob') (.r tg i' f')=vw (ci (a8 tg) s.H) (.r tg i' f'):=by
  intro i' f' hne;rw[n5 hov,n5 ho1,ji1];split
  ·rename_i hc;rw[jdm es i _ hi,if_neg (fun e=>hne (by rw[e,hc.1]))]
  ·rfl
 generalize hVV:(upd (fun T' =>(vw (ci (a8 tg) s.H) T').map (Vw.sb (b7 (.r tg i 0)))) (.r tg i 0) (Vw.app ⟨el,v.sz,zs.length,fun j g=>(v.cells true (zs.getD j v.dft)).getD g .any⟩ (b7 (.r tg i 0)) 0 zs.length ys.length (fun i f=>(v.cells true (ys.getD i v.dft)).getD f .any)))=VV at hr hV hm;have hVk:VV (.r tg i 0)=some (Vw.app ⟨el,v.sz,zs.length,fun j g=>(v.cells true (zs.getD j v.dft)).getD g .any⟩ (b7 (.r tg i 0)) 0 zs.length ys.length (fun i f=>(v.cells true (ys.getD i v.dft)).getD f .any)):=by rw[←hVV];exact dj _ _ _
 have hVn:∀T,T≠ .r tg i 0→VV T=(vw (ci (a8 tg) s.H) T).map (Vw.sb (b7 (.r tg i 0))):=fun T hT=>by rw[←hVV];exact cr hT
 have hinfo:aj (vw ((ci (a8 tg) s.H).set tg ob'))=aj VV:=by
  funext T;by_cases e:T= .r tg i 0
  ·subst e;simp only[aj,hkid,hVk,Option.map_some,Vw.app,List.length_append]
  ·rw[show aj VV T=aj (vw (ci (a8 tg) s.H)) T from zh (hVn T e)];by_cases e2:T.ob=tg
   ·cases T with
    |o t=>simp only[TG.ob]at e2;subst e2;simp only[aj,wc hov,wc ho1,Option.map_some]
    |r t i' f' =>simp only[TG.ob]at e2;subst e2;simp only[aj,hrow i' f' e]
   ·simp only[aj,du e2]
 have hG:gr U (vw ((ci (a8 tg) s.H).set tg ob')) w' σ' =gr U VV w' σ' :=by simp only[gr,hinfo]
 refine⟨hr.tell hinfo (fun t v hv=>hv) (fun T v1 hv1=> ?_),by rw[hG];exact hV⟩;by_cases e:T= .r tg i 0
 ·subst e;rw[hkid]at hv1;cases hv1;refine⟨_,hVk,rfl,fun j g hj hg y hy=> ?_,fun e _=>absurd (show v.sz=0 from e) (by omega)⟩;show VR _ ((v.cells true ((zs++ys).getD j v.dft)).getD g .any) y;simp only[Vw.app,Nat.zero_add]at hy;by_cases hin2:j<zs.length
  ·rw[if_pos hin2,Ty.cells_sb]at hy;have e:(zs++ys).getD j v.dft=zs.getD j v.dft:=by
    simp only[List.getD_eq_getElem?_getD];rw[List.getElem?_append_left hin2]
   rw[e];exact hy
  ·rw[if_neg hin2,Ty.cells_sb]at hy;have e:(zs++ys).getD j v.dft=ys.getD (j-zs.length) v.dft:=by
    simp only[List.getD_eq_getElem?_getD];rw[List.getElem?_append_right (by omega)]
   rw[e];exact hy
 ·rw[hVn T e];by_cases e2:T.ob=tg
  ·cases T with
   |o t=>
    simp only[TG.ob]at e2;subst e2;rw[wc hov]at hv1;cases hv1;rw[wc ho1];have hcell:∀i' f',moC t kt (q1v es i (zs++ys)) (some i) i' f' =(moC t kt es none i' f').sb (b7 (.r t i 0)):=by
     intro i' f';rw[jtt];unfold moC;split
     ·split
      ·rfl
      ·by_cases e3:i=i'
       ·subst e3;rw[if_pos rfl,if_neg (by simp)];simp[TV.sb,b7]
       ·rw[if_neg (by simpa using e3),if_neg (by simp)];simp[TV.sb,b7,Ne.symm e3]
      ·rfl
     ·rfl
    exact⟨_,rfl,rfl,fun i' f' hi' hf' y hy=>absurd hi' (Nat.not_lt_zero _),fun _ _=>⟨⟨fun _=> .id,fun i' f' =>by
     show moC t kt (q1v es i (zs++ys)) (some i) i' f' =((moC t kt es none i' f').sb (b7 (.r t i 0))).sb _;rw[hcell,TV.sb_id]⟩,fun i' y hy=>by
     show VR _ (moC t kt (q1v es i (zs++ys)) (some i) i' 1) y;rw[hcell];exact hy⟩⟩
   |r t i' f' =>
    simp only[TG.ob]at e2;subst e2;rw[hrow i' f' e]at hv1;rw[hv1];exact⟨_,rfl,rfl,fun j g _ _ y hy=>by
     have hy:VR (gr U VV w' σ') ((v1.cs j g).sb (b7 (.r t i 0))) y:=hy;rwa[qcp hv1]at hy,fun _ _=>⟨⟨fun _=> .id,fun j g=>by show v1.cs j g=((v1.cs j g).sb _).sb _;rw[qcp hv1,TV.sb_id]⟩,fun j y hy=>by
     have hy:VR _ ((v1.cs j 1).sb _) y:=hy;rwa[qcp hv1]at hy⟩⟩
  ·rw[du e2]at hv1;rw[←qs9 (fun i' f' =>o4 (fun e' =>e2 (by cases e';rfl))),qdr (a8 tg) (b7 (.r tg i 0)) (a8 tg) (x0 _ qk4)];exact⟨v1,hv1,rfl,fun j g _ _ y hy=>hy,qg1 v1⟩
end
end Go.K
namespace Go.K
open Go.M Go.RowKit
theorem jp2{A:TV}(h:jlk A=true):A= .val (.slice none 0 0):=by
 unfold jlk at h;split at h
 ·rfl
 ·cases h
theorem jnv:∀{A B:List TV},ji3 A B=true→∀f fr v ys,A.getD f .any= .sl fr v ys→B.getD f .any= .val (.slice none 0 0)
 |[],_,_,f,fr,v,ys,h=>by simp at h
 |_::_,[],h,_,_,_,_,_=>by simp[ji3]at h
 |a::A,b::B,h,0,fr,v,ys,hf=>by
  simp only[ji3,Bool.and_eq_true]at h;simp only[List.getD_cons_zero]at hf⊢;subst hf;exact jp2 (by simpa[jx1]using h.1)
 |a::A,b::B,h,f+1,fr,v,ys,hf=>by
  simp only[ji3,Bool.and_eq_true]at h;simpa using jnv h.2 f fr v ys (by simpa using hf)
section
variable {U : Nat → Prop} {w0 : World} {σ0 : Pl} {K : Nat → Bool} {N : Nat} {P : Program} {tt : TT}
theorem jqk{u:Ty}{cs:List TV}{x:u.den}{g:Bool}(h:u.pack1 cs=some (x,g)){f:Nat}(hf:f<u.sz)(hc:cs.getD f .any= .val (.slice none 0 0)){v:Ty}{ys:List v.den}(hin:dv u x f=some ⟨v,ys⟩):ys=[]:=by
 have:=(Ty.pack1_ok (G:=⟨default,fun _=>True,fun _=>True,fun _=>none,fun _=>none⟩) h).2 f hf (.slice none 0 0) (by rw[hc];rfl);rw[Ty.C_dc _ _ true u x f _ hf,qg2 hin]at this;obtain⟨a,c,e,_⟩:=this;cases ys with
 |nil=>rfl
 |cons y ys=>simp at e
theorem jij{A:TV}{w:World}{Y:Nat→Prop}(hf:wy true A)(hns:∀fr v ys,A≠ .sl fr v ys)(h:DC w Y A (.slice none 0 0)):False:=by
 cases A with
 |int k n=>cases h
 |bool b=>cases h
 |val c=>cases c<;>simp only[wy]at hf;cases h
 |sl fr v ys=>exact hns _ _ _ rfl
 |_=>exact hf
theorem jhf(hF:c9 P tt){s:TS}{a:Act}{w:World}{σ:Pl}(h:c7 U w0 σ0 K N s a w σ){tg:Nat}{st ty el:TypeId}{u:Ty}{ei:TI}(hE:ElOK tt st el u ei){its:List TypeId}{xs:List u.den}(ho:s.H[tg]? =some (.arr el .own its u xs))(hK:K tg=false){vd:Value}(hd:SlR w σ (.o tg) u.sz 0 xs.length vd)
  {cells:List TV} (hnil:ji3 (u.cells true u.dft) cells=true) {x:u.den} {g:Bool} (hpk:u.pack1 cells=some (x,g)) {sv:Value} (hs:tf (gr U (vw s.H) w σ) u.sz 1 (fun i f=>cells.getD (i*u.sz+f) .any) sv) (hroom:room (xs.length+1) ei.bytes=true):
  qoj P U w0 σ0 K N ⟨sbS (bh tg) s.S,(ci (bh tg) s.H).set tg (.arr el .own its u (xs++[x]))⟩ (.o tg) a w st ty vd sv:=by
 obtain⟨⟨b1,b2,z1,hst⟩,hel,hsz,hpos,hz⟩:=hE;obtain⟨sa,c,news,rfl,hl,hsa,h1,hsrc⟩:=hs.news hpos;obtain⟨hr1,hr2⟩:=qsn hroom;obtain⟨v',w',σ',hrun,hr,hm,hV⟩:=h.append hF (ty:=ty) hst hel (ax ho) rfl hsz hpos hz (fun t e=>by cases e;exact hK) (off:=0) hd (by simp) (c:=c) hl hsa h1 hsrc hr1 hr2;refine⟨v',w',σ',hrun,?_⟩;rw[q1s]at hr hV hm;have hS:(fun t=>(bq s.S t).sb (b7 (.o tg)))=bq (sbS (bh tg) s.S):=by
  funext t;rw[ez,qyw]
 rw[hS]at hr;have ho1:(ci (bh tg) s.H)[tg]? =some (.arr el .own its u xs):=rz ho;have hlt:tg<(ci (bh tg) s.H).length:=(List.getElem?_eq_some_iff.1 ho1).1;have hov:((ci (bh tg) s.H).set tg (.arr el .own its u (xs++[x])))[tg]? =some (.arr el .own its u (xs++[x])):=List.getElem?_set_self hlt;have hlen:(xs++[x]).length=xs.length+1:=by simp
 have hold:∀i,i<xs.length→(xs++[x]).getD i u.dft=xs.getD i u.dft:=fun i hi=>by simp only[List.getD_eq_getElem?_getD,List.getElem?_append_left hi]
 have hnew:(xs++[x]).getD xs.length u.dft=x:=by simp
 have hys:∀f v ys,dv u x f=some ⟨v,ys⟩→ys=[]∧cells.getD f .any= .val (.slice none 0 0):=by
  intro f v ys hin;have hfu:=qk3 hin;obtain⟨v',zs,⟨_,_⟩,hd'⟩:=Ty.cells_slice true true u x u.dft f ⟨v,ys,qg2 hin⟩;have hc:=jnv hnil f true v' zs hd';exact⟨jqk hpk hfu hc hin,hc⟩
 have hrowN:∀f v,vw ((ci (bh tg) s.H).set tg (.arr el .own its u (xs++[x]))) (.r tg xs.length f)=some v→v.n=0:=by
  intro f v hv;rw[jj hov,if_pos ⟨rfl,by simp⟩,hnew]at hv;cases hq:dv u x f with
  |none=>rw[hq]at hv;cases hv
  |some y=>
   obtain⟨v0,ys⟩:=y;rw[hq]at hv;cases hv;rw[(hys f v0 ys hq).1];rfl
 have hrowO:∀i f,i≠xs.length→vw ((ci (bh tg) s.H).set tg (.arr el .own its u (xs++[x]))) (.r tg i f)=vw (ci (bh tg) s.H) (.r tg i f):=by
  intro i f hi;rw[jj hov,jj ho1,hlen];by_cases e:i<xs.length
  ·rw[if_pos ⟨rfl,by omega⟩,if_pos ⟨rfl,e⟩,hold i e]
  ·rw[if_neg (by omega),if_neg (by omega)]
 have hrow1:∀f,vw (ci (bh tg) s.H) (.r tg xs.length f)=none:=fun f=>by rw[jj ho1,if_neg (by simp)]
 have hσN:∀f,σ' (.r tg xs.length f)=none:=by
  intro f;cases hq:σ' (.r tg xs.length f)with
  |none=>rfl
  |some p=>
   obtain⟨v0,hv0⟩:=hr.hr.dom _ p hq;rw[cr (by simp),hrow1]at hv0;cases hv0
 generalize hvv:(Vw.app ⟨el,u.sz,xs.length,fun i f=>bx tg .own u xs i f⟩ (b7 (.o tg)) 0 xs.length 1 (fun i f=>cells.getD (i*u.sz+f) .any))=vv at hr hV hm;have hvn:vv.n=xs.length+1:=by rw[←hvv];rfl
 have hvs:vv.sz=u.sz:=by rw[←hvv];rfl
 have hvt:vv.ty=el:=by rw[←hvv];rfl
 have hvc:∀i f,vv.cs i f=if i<xs.length then(bx tg .own u xs (0+i) f).sb (b7 (.o tg))else(cells.getD ((i-xs.length)*u.sz+f) .any).sb (b7 (.o tg)):=fun i f=>by rw[←hvv];rfl
 have hto:∀T q,aj (upd (vw (ci (bh tg) s.H)) (.o tg) vv) T=some q→aj (vw ((ci (bh tg) s.H).set tg (.arr el .own its u (xs++[x])))) T=some q:=by
  intro T q hq;by_cases e:T.ob=tg
  ·cases T with
   |o t=>
    simp only[TG.ob]at e;subst e;simp only[aj,dj,Option.map_some,hvn,hvs]at hq;simp only[aj,ax hov,Option.map_some,hlen];exact hq
   |r t i f=>
    simp only[TG.ob]at e;subst e;simp only[aj,cr (show TG.r t i f≠ .o t by simp)]at hq;by_cases ei:i=xs.length
    ·subst ei;rw[hrow1]at hq;cases hq
    ·simp only[aj,hrowO i f ei];exact hq
  ·simp only[aj,cr (show T≠ .o tg from fun e' =>e (by rw[e'];rfl))]at hq;simp only[aj,du e];exact hq
 have hm2:Mv (fun _=> .id) (gr U (upd (vw (ci (bh tg) s.H)) (.o tg) vv) w' σ') (gr U (vw ((ci (bh tg) s.H).set tg (.arr el .own its u (xs++[x])))) w' σ'):=
  ⟨Nat.le_refl _,fun _ _ hx=>hx,fun _ _ _ hu=>hu,fun _ _ _=>rfl,fun T T' q ht hq=>(by
   rcases ht with⟨_,rfl⟩|ht
   ·exact⟨hto T' q hq,fun g o hg=>⟨hg,fun cur e hh=>⟨cur,hh,rfl⟩⟩⟩
   ·cases ht),fun T fr u xs q e=>(by cases e)⟩
 refine⟨ARel.re' (θ:=fun _=> .id) (S' :=bq (sbS (bh tg) s.S)) (σ' :=σ') hr (fun t=>t=tg) (fun t=>(TV.sb_id _).symm) (fun T hT=> ?_) (fun _ _=>rfl) (fun _ _=>rfl) (fun T T' q hT ht hq=> ?_) (fun T fr u xs e=>by cases e) (fun T p hT hp=>⟨T,hT,hp⟩) (fun T T' g o o' _ _ h1 h2=>hr.hr.inj T T' g o o' h1 h2) (fun T p hT hp=> ?_) (fun _ _ _=>rfl) (fun hm T v1 hT hv1=> ?_),?_⟩
 ·rw[qk8,cr (fun e' =>hT (by rw[e'];rfl))];exact du hT
 ·rcases ht with⟨_,rfl⟩|ht
  ·exact⟨hto T' q hq,fun g o hg=>hg⟩
  ·cases ht
 ·obtain⟨v0,hv0⟩:=hr.hr.dom T p hp;have:aj (upd (vw (ci (bh tg) s.H)) (.o tg) vv) T=some (v0.n,v0.sz):=by simp only[aj,hv0,Option.map_some]
  obtain⟨v2,hv2,_⟩:=HR.info_lt (hto T _ this);exact⟨v2,hv2⟩
 ·cases T with
  |o t=>
   simp only[TG.ob]at hT;subst hT;rw[ax hov]at hv1;cases hv1;refine(hr.hr.obj (.o t) _ (dj _ _ _)).mv hm (fun _ _ _=>rfl) hvt.symm hvs.symm (by rw[hvn];exact hlen) (fun i f hi hf y hy=> ?_) (fun _ e=>absurd e (by omega));rw[hvn]at hi;rw[hvs]at hf;rw[hvc]at hy;show VR _ (bx t .own u (xs++[x]) i f) y;by_cases e:i<xs.length
   ·rw[if_pos e,Nat.zero_add,zn (o4 (by simp))]at hy;have:=VR.mv hm _ y hy;rw[TV.sb_id]at this;rw[yb (xs:=xs) rfl (.inl (by rw[hold i e]))];exact this
   ·have ei:i=xs.length:=by omega
    subst ei;rw[if_neg (by omega),Nat.sub_self,Nat.zero_mul,Nat.zero_add]at hy;rw[qgd,hnew];have hpa:=qzf hpk hf true;cases hq:dv u x f with
    |some yy=>
     obtain⟨v0,ys⟩:=yy;obtain⟨rfl,hc⟩:=hys f v0 ys hq;rw[qg2 hq];rw[hc]at hy;have hy:y= .slice none 0 0:=hy;subst hy;refine⟨0,v0.sz,?_, .inl ⟨none,rfl,rfl⟩⟩;show aj _ _=_;simp only[aj,jj hov];rw[if_pos ⟨rfl,by simp⟩,hnew,hq];rfl
    |none=>
     have hns:∀fr v ys,(u.cells true x).getD f .any≠ .sl fr v ys:=fun fr v ys e=>by rw[qms e]at hq;cases hq
     have hdat:=Ty.cells_data true u x f hf;have hform:=xw (b:=true) (t:=u) (x:=x) (f:=f) rfl (by intro e;rw[e]at hdat;cases hdat);have hcell:(u.cells true x).getD f .any=cells.getD f .any:=by
      rw[hpa];split
      ·rename_i fr v ys e;rw[e]at hpa;exact absurd hpa (hns _ _ _)
      ·rename_i e;have:=(Ty.pack1_ok (G:=⟨default,fun _=>True,fun _=>True,fun _=>none,fun _=>none⟩) hpk).2 f hf (.slice none 0 0) (by rw[e];rfl);rw[Ty.C_dc _ _ true u x f _ hf]at this;exact(jij hform hns this).elim
      ·rename_i e;have:=(Ty.pack1_ok (G:=⟨default,fun _=>True,fun _=>True,fun _=>none,fun _=>none⟩) hpk).2 f hf (.slice none 0 0) (by rw[e];exact⟨none,rfl⟩);rw[Ty.C_dc _ _ true u x f _ hf]at this;exact(jij hform hns this).elim
      ·rfl
     have hy2:=VR.mv hm _ y hy;rw[TV.sb_id,←hcell,Ty.cells_sb]at hy2;split
     ·rename_i e;exact absurd e (hns _ _ _)
     ·exact hy2
  |r t i f=>
   simp only[TG.ob]at hT;subst hT;by_cases ei:i=xs.length
   ·subst ei;rw[hσN];exact hrowN f v1 hv1
   ·rw[hrowO i f ei]at hv1;refine OR.re hm (hr.hr.obj _ _ ((cr (by simp)).trans hv1)) rfl rfl rfl (fun j g _ _=> .inl (TV.sb_id _).symm) (fun _ _=>HZ.of hm fun _ _=>(TV.sb_id _).symm)
 ·have:=VR.mv hm2 _ _ hV;rwa[TV.sb_id]at this
def k7(t:Nat):TG→Ac
 | .o t' =>bif Nat.beq t' t then .kill else .id
 | .r t' _ _=>bif Nat.beq t' t then .kill else .id
theorem jte(t:Nat)(T:TG):k7 t T= .id∨k7 t T= .kill:=by
 cases T with
 |o t' =>simp only[k7];cases Nat.beq t' t<;>simp
 |r t' _ _=>simp only[k7];cases Nat.beq t' t<;>simp
theorem jmr(hF:c9 P tt){s:TS}{a:Act}{w:World}{σ:Pl}(h:c7 U w0 σ0 K N s a w σ){tg t2:Nat}{st ty el:TypeId}{v:Ty}{ei:TI}(hE:ElOK tt st el (.slice v) ei){its its2:List TypeId}{xs:List (Ty.slice v).den}(ho:s.H[tg]? =some (.arr el .own its (.slice v) xs))(hK:K tg=false)
  {ty2:TypeId} {fr2:Bool} {ys:(Ty.slice v).den} (ho2:s.H[t2]? =some (.arr ty2 (.fz fr2) its2 v ys)) (hne:t2≠tg) (hfl:(fr2||v.flat)=true) (hty2:ty2=its.getD 0 0) (hK2:K t2=false) {vd:Value} (hd:SlR w σ (.o tg) 1 0 xs.length vd)
  {sv:Value} (hs:tf (gr U (vw s.H) w σ) 1 1 (fun i f=>([.own (.o t2)]:List TV).getD (i*1+f) .any) sv) (hroom:room (xs.length+1) ei.bytes=true):
  qoj P U w0 σ0 K N ⟨sbS (ow t2 tg xs.length 0) (sbS (bh tg) s.S),((ci (ow t2 tg xs.length 0) (ci (bh tg) s.H)).set tg (.arr el .own its (.slice v) (xs++[ys]))).set t2 .gone⟩ (.o tg) a w st ty vd sv:=by
 obtain⟨⟨b1,b2,z1,hst⟩,hel,hsz,hpos,hz⟩:=hE;have hk:=h.kills (jte tg);have hG0:gr U (vw (ci (k7 tg) s.H)) w σ=gr U (vw s.H) w σ:=by simp only[gr,qd6]
 have ho1:(ci (k7 tg) s.H)[tg]? =some (.arr el .own its (.slice v) xs):=rz ho;have ho12:(ci (k7 tg) s.H)[t2]? =some (.arr ty2 (.fz fr2) its2 v ys):=rz ho2;rw[←hG0]at hs;obtain⟨sa,c,news,rfl,hl,hsa,h1,hsrc⟩:=hs.news hpos;obtain⟨hr1,hr2⟩:=qsn hroom;obtain⟨v',w',σ',hrun,hr,hm,hV⟩:=hk.append hF (ty:=ty) hst hel (ax ho1) rfl hsz hpos hz (fun t e=>by cases e;exact hK) (off:=0) hd (by simp) (c:=c) hl hsa h1 hsrc hr1 hr2;refine⟨v',w',?_⟩;rw[q1s]at hr hV hm;have habs:∀T,k7 tg T=match k7 tg T with| .id=>bh tg T| .kill=> .kill| .to T' =>(match bh tg T' with| .id=> .to T' |a=>a)| .fz fr u xs=> .fz fr u xs:=by
  intro T;cases T with
  |o t' =>simp only[k7,bh];cases Nat.beq t' tg<;>rfl
  |r t' i f=>simp only[k7,bh];cases Nat.beq t' tg<;>rfl
 have hH2:ci (bh tg) (ci (k7 tg) s.H)=ci (k7 tg) s.H:=qdr _ _ _ habs s.H;rw[hH2]at hr hV hm;have hS:(fun t=>(bq (sbS (k7 tg) s.S) t).sb (b7 (.o tg)))=bq (sbS (k7 tg) s.S):=by
  funext t;rw[ez,←qyw,TV.sb_sb _ _ _ habs]
 have hr:ARel U w0 σ0 K N (fun t=>(bq (sbS (k7 tg) s.S) t).sb (b7 (.o tg))) _ a w' σ' :=hr;rw[hS]at hr;have hlt:tg<(ci (k7 tg) s.H).length:=(List.getElem?_eq_some_iff.1 ho1).1;have hov:((ci (k7 tg) s.H).set tg (.arr el .own its (.slice v) (xs++[ys])))[tg]? =some (.arr el .own its (.slice v) (xs++[ys])):=List.getElem?_set_self hlt;have hlen:(xs++[ys]).length=xs.length+1:=by simp
 have hold:∀i,i<xs.length→(xs++[ys]).getD i (Ty.slice v).dft=xs.getD i (Ty.slice v).dft:=fun i hi=>by simp only[List.getD_eq_getElem?_getD,List.getElem?_append_left hi]
 have hnew:(xs++[ys]).getD xs.length (Ty.slice v).dft=ys:=by simp
 obtain⟨σ'',he,hme⟩:=ARel.eat (i:=xs.length) (f:=0) (xs' :=xs++[ys]) hr ho1 ho12 hne hfl hty2 hK2 rfl rfl (by simp[Vw.app]) (by simp) (by rw[hnew];rfl) (by simp[Vw.app,TV.sb,b7,hne])
  (fun i' f' hi' hf' hne' =>by
   have hf0:f' =0:=by simp[Ty.sz]at hf';omega
   subst hf0;have hi2:i' <xs.length:=by
    rw[hlen]at hi';have:i' ≠xs.length:=fun e=>hne' (by rw[e])
    omega
   simp only[Vw.app,if_pos hi2,Nat.zero_add];rw[zn (o4 (by simp))];exact(yb (xs:=xs) rfl (.inl (by rw[hold i' hi2]))).symm)
  (fun i' f' hne' =>by
   rw[jj hov,jj ho1,hlen];by_cases e:i' <xs.length
   ·rw[if_pos ⟨rfl,by omega⟩,if_pos ⟨rfl,e⟩,hold i' e]
   ·rw[if_neg (show¬(Md.own.isOwn=true∧i' <xs.length)from fun e' =>e e'.2)];by_cases e2:i' =xs.length
    ·subst e2;rw[if_pos ⟨rfl,by omega⟩,hnew];cases f' with
     |zero=>exact absurd rfl hne'
     |succ f' =>rfl
    ·rw[if_neg (by omega)])
 refine⟨σ'',hrun,?_⟩;have hcomp:∀T,(match bh tg T with| .id=>ow t2 tg xs.length 0 T| .kill=>Ac.kill| .to T' =>(match ow t2 tg xs.length 0 T' with| .id=> .to T' |a=>a)| .fz fr u xs=> .fz fr u xs)=match k7 tg T with| .id=>eo t2 tg xs.length 0 T| .kill=> .kill| .to T' =>(match eo t2 tg xs.length 0 T' with| .id=> .to T' |a=>a)| .fz fr u xs=> .fz fr u xs:=by
  intro T;cases T with
  |o t' =>
   by_cases e:t' =tg
   ·subst e;simp[bh,k7,Nat.beq_refl]
   ·by_cases e2:t' =t2
    ·subst e2;simp[bh,k7,qjh e,ow,eo,Nat.beq_refl]
    ·simp[bh,k7,qjh e,ow,eo,qjh e2,e2]
  |r t' i f=>
   by_cases e:t' =tg
   ·subst e;simp[bh,k7,Nat.beq_refl,ow]
   ·simp[bh,k7,qjh e,ow,eo,e]
 let θ3:TG→Ac:=fun T=>match k7 tg T with| .id=>eo t2 tg xs.length 0 T| .kill=> .kill| .to T' =>(match eo t2 tg xs.length 0 T' with| .id=> .to T' |a=>a)| .fz fr u xs=> .fz fr u xs
 have e1:(fun t=>(bq (sbS (k7 tg) s.S) t).sb (eo t2 tg xs.length 0))=bq (sbS (ow t2 tg xs.length 0) (sbS (bh tg) s.S)):=by
  funext t;rw[ez,ez,ez,TV.sb_sb (k7 tg) (eo t2 tg xs.length 0) θ3 (fun T=>rfl),TV.sb_sb (bh tg) (ow t2 tg xs.length 0) θ3 (fun T=>(hcomp T).symm)]
 have e2:ci (eo t2 tg xs.length 0) (ci (k7 tg) s.H)=ci (ow t2 tg xs.length 0) (ci (bh tg) s.H):=by
  rw[qdr (k7 tg) (eo t2 tg xs.length 0) θ3 (fun T=>rfl),qdr (bh tg) (ow t2 tg xs.length 0) θ3 (fun T=>(hcomp T).symm)]
 rw[e2]at he hme;have he' :ARel U w0 σ0 K N (fun t=>(bq (sbS (k7 tg) s.S) t).sb (eo t2 tg xs.length 0)) _ a w' σ'' :=he;rw[e1]at he';refine⟨he',?_⟩;have:=VR.mv hme _ _ hV;simpa[TV.sb,eo,Ne.symm hne]using this
end
end Go.K
namespace Go.K
open Go.M Go.RowKit
variable {F : Nat → Prop}
theorem qoh(fr:Bool)(u:Ty)(x:u.den)(f:Nat):∀δ:List St,vAps ((u.cells fr x).getD f .any) δ=(u.cells fr x).getD f .any
 |[]=>rfl
 | .sb θ::δ=>by
  simp only[vAps,vAp,Ty.cells_sb];exact qoh fr u x f δ
 | .set t o::δ=>qoh fr u x f δ
 | .new t o::δ=>qoh fr u x f δ
theorem jin(θ:TG→Ac)(H:List TOb)(n:Nat)(hn:n≤H.length)(o o' :TOb):(ci θ (ey H n o)).set n o' =ey (ci θ H) n o' :=by
 apply List.ext_getElem?;intro t;have hl:n<(ci θ (ey H n o)).length:=by
  rw[ck];have:=io H n o hn n;rw[if_pos rfl]at this;exact(List.getElem?_eq_some_iff.1 this).1
 rw[io _ _ _ (by rw[ck];exact hn)];by_cases e:t=n
 ·subst e;rw[if_pos rfl,List.getElem?_set_self hl]
 ·rw[if_neg e,List.getElem?_set_ne (Ne.symm e),fp,fp,io _ _ _ hn,if_neg e]
theorem tf.goes{G G1:Gr}(hw:G1.w=G.w){δ:List St}(hmv:∀A v,VR G A v→VR G1 (vAps A δ) v){sz m:Nat}{src:Nat→Nat→TV}(hfix:∀i f,vAps (src i f) δ=src i f){v:Value}(h:tf G sz m src v):tf G1 sz m src v:=by
 obtain⟨sa,c,hv,hc⟩:=h;refine⟨sa,c,hv,fun h0=> ?_⟩;obtain⟨b,o,ha,hcell⟩:=hc h0;refine⟨b,o,ha,fun i f hi hf=> ?_⟩;obtain⟨y,hy,h1,hV⟩:=hcell i f hi hf;have:=hmv _ y hV;rw[hfix]at this;exact⟨y,by rw[hw];exact hy,h1,this⟩
section
variable {U : Nat → Prop} {w0 : World} {σ0 : Pl} {K : Nat → Bool} {N : Nat} {P : Program} {tt : TT} {R Rf : Type}
theorem q9z{G:Gr}{H:List TOb}(hS:Sees G H){T:TG}{fr:Bool}{v:Ty}{ys:List v.den}(h:jb9 H T=some (fr,⟨v,ys⟩)){n sz:Nat}(hI:G.I T=some (n,sz)):
  n=ys.length∧sz=v.sz∧∃vv:Vw,OR G (G.σ T) vv∧vv.sz=v.sz∧vv.n=ys.length∧∀i f,f<v.sz→∀y,VR G (vv.cs i f) y→VR G ((v.cells fr (ys.getD i v.dft)).getD f .any) y:=by
 cases T with
 |o t=>
  simp only[jb9]at h;split at h
  ·rename_i ty fr0 its u xs ho;simp only[Option.some.injEq,Prod.mk.injEq,Sigma.mk.injEq]at h;obtain⟨rfl,rfl,hx⟩:=h;have hx:=eq_of_heq hx;subst hx;obtain⟨h1,h2⟩:=hS.see _ _ (ax ho);rw[hI]at h1;simp only[Option.some.injEq,Prod.mk.injEq]at h1;refine⟨h1.1,h1.2,_,h2,rfl,rfl,fun i f hf y hy=> ?_⟩;have hy:VR G (bx t (.fz fr0) u xs i f) y:=hy;rw[kf,←Ty.C_iff _ _ _ _ _ _ hf]at hy;rw[←Ty.C_iff _ _ _ _ _ _ hf];exact Ty.C_fl (fun e=>by simpa using e) hy
  ·cases h
 |r t i0 f0=>
  obtain⟨ob,ho,hng⟩:=jn3 h;obtain⟨vv,hvv⟩:=hS.all t i0 f0 ob ho hng _ hI;obtain⟨rfl,e1,e2,e3⟩:=jn4 h hvv;obtain⟨h1,h2⟩:=hS.see _ _ hvv;rw[hI]at h1;simp only[Option.some.injEq,Prod.mk.injEq]at h1;exact⟨by omega,by omega,vv,h2,e1,e2,fun i f hf y hy=>by rw[e3]at hy;exact hy⟩
theorem jof{X:Ctx Rf}(hK:∀t,br X.kp t=false→K t=false){s:TS}{a:Act}{w:World}{σ:Pl}(hr:c7 U w0 σ0 K N s a w σ){Hv:List TOb}(hl:HLe F Hv s.H){u:Ty}{x:TV}{δ:List St}{fr' :Bool}{ys:List u.den}(h:jxe X Hv u x=some (δ,fr',ys))
  {sv:Value} (hv:VR (gr U (vw s.H) w σ) x sv):∃σ1,c7 U w0 σ0 K N (s.aps δ) a w σ1∧HLe F (ia Hv δ) (s.aps δ).H∧(∀A v,VR (gr U (vw s.H) w σ) A v→VR (gr U (vw (s.aps δ).H) w σ1) (vAps A δ) v)∧
   tf (gr U (vw (s.aps δ).H) w σ1) u.sz ys.length (fun i f=>(u.cells fr' (ys.getD i u.dft)).getD f .any) sv:=by
 have stay:∀ys:List u.den,tf (gr U (vw s.H) w σ) u.sz ys.length (fun i f=>(u.cells fr' (ys.getD i u.dft)).getD f .any) sv→∃σ1,c7 U w0 σ0 K N (s.aps []) a w σ1∧HLe F (ia Hv []) (s.aps []).H∧(∀A v,VR (gr U (vw s.H) w σ) A v→VR (gr U (vw (s.aps []).H) w σ1) (vAps A []) v)∧
   tf (gr U (vw (s.aps []).H) w σ1) u.sz ys.length (fun i f=>(u.cells fr' (ys.getD i u.dft)).getD f .any) sv:=fun ys hs=>⟨σ,hr,hl,fun A v hv=>hv,hs⟩
 have hS:=hl.sees hr.hr;unfold jxe at h;split at h
 ·rename_i fr v zs;split at h
  ·rename_i he _;subst he;simp only[Option.some.injEq,Prod.mk.injEq]at h;obtain⟨rfl,rfl,rfl⟩:=h;refine stay _ ((tf.of_sl hv).mono fun i f hi hf y hy=> ?_);rw[←Ty.C_iff _ _ _ _ _ _ hf]at hy⊢;exact Ty.C_fl (fun e=>by simpa using e) hy
  ·cases h
 ·simp only[Option.some.injEq,Prod.mk.injEq]at h;obtain⟨rfl,rfl,rfl⟩:=h;have hv:sv= .slice none 0 0:=hv;exact stay _ ⟨none,0,hv,fun h0=>by simp at h0⟩
 ·simp only[Option.some.injEq,Prod.mk.injEq]at h;obtain⟨rfl,rfl,rfl⟩:=h;obtain⟨b,hv⟩:=hv;exact stay _ ⟨b,0,hv,fun h0=>by simp at h0⟩
 ·rename_i t;split at h
  ·rename_i ty sz n cs ho;split at h
   ·rename_i δ1 hd;split at h
    ·rename_i ty' sz' n' cs' ho';obtain⟨hb,h⟩:=ai h;simp only[Bool.and_eq_true]at hb;split at h
     ·rename_i ys' g hpk;simp only[Option.some.injEq,Prod.mk.injEq]at h;obtain⟨rfl,rfl,rfl⟩:=h;obtain⟨hg,hl1⟩:=qga (U:=U) (w0:=w0) (σ0:=σ0) (K:=K) (N:=N) hK _ Hv s δ1 hl hd;obtain⟨σ1,hr1,hmv⟩:=hg a w σ hr;have hl1' :HLe F (ia Hv δ1) (s.aps δ1).H:=by rw[qki];exact hl1
      have hfix:=qm0 _ Hv δ1 t hd (fun hgone=>by have:=hgone _ ho';cases this);have hv1:=hmv _ _ hv;rw[hfix.own]at hv1;obtain⟨n1,sz1,hI,hsl⟩:=hv1;obtain⟨h1,h2⟩:=(hl1'.sees hr1.hr).see _ _ (qch ho');rw[hI]at h1;simp only[Option.some.injEq,Prod.mk.injEq]at h1;obtain⟨rfl,rfl⟩:=h1;have e1:=aw hb.1;have e2:=aw hb.2;obtain⟨q1,q2,q3⟩:=Ty.packN_ok (G:=gr U (vw (s.aps δ1).H) w σ1) hpk;refine⟨σ1,hr1,hl1',hmv,?_⟩;have hs:=tf.of_row h2 (off:=0) (m:=n1) (by simp) hsl;have e3:n1=ys'.length:=by rw[q1,←e1]
      rw[e2]at hs;rw[←e3];refine hs.mono fun i f hi hf y hy=> ?_
      rw[←Ty.C_iff _ _ _ _ _ _ hf];refine Ty.C_fl (fun e=>by simpa using e) (q3 i f (by omega) hf y ?_);simp only[Nat.zero_add]at hy
      first|exact hy|(rw[e2]at hy;exact hy)
     ·cases h
    ·cases h
   ·cases h
  ·rename_i ty its v zs ho;obtain⟨hb,h⟩:=ai h;split at h
   ·rename_i he _;subst he;simp only[Option.some.injEq,Prod.mk.injEq]at h;obtain⟨rfl,rfl,rfl⟩:=h;obtain⟨σ1,hr1,hmv⟩:=jfc (U:=U) (w0:=w0) (σ0:=σ0) (K:=K) (N:=N) (s:=s) hl (t:=t) a w σ hr;have hl1' :HLe F (ia Hv (qa1 Hv t)) (s.aps (qa1 Hv t)).H:=by rw[qki];exact jfb hl t
    have hv1:=hmv _ _ hv;rw[(qxw Hv t t).own]at hv1;obtain⟨n1,sz1,hI,hsl⟩:=hv1;have ho1:(ia Hv (qa1 Hv t))[t]? =some (.arr ty (.fz true) its v zs):=by
     unfold qa1;simp only[ho,ia,hAp];exact List.getElem?_set_self (by rw[ck];exact(List.getElem?_eq_some_iff.1 ho).1)
    obtain⟨h1,h2⟩:=(hl1'.sees hr1.hr).see _ _ (ax ho1);rw[hI]at h1;simp only[Option.some.injEq,Prod.mk.injEq]at h1;obtain⟨rfl,rfl⟩:=h1;refine⟨σ1,hr1,hl1',hmv,?_⟩;have hs:=tf.of_row h2 (off:=0) (m:=zs.length) (by simp) hsl;refine hs.mono fun i f hi hf y hy=> ?_
    have hy:VR _ (bx t (.fz true) v zs (0+i) f) y:=hy;rw[kf,Nat.zero_add]at hy;exact hy
   ·cases h
  ·rename_i ty fr its v zs ho;split at h
   ·rename_i he _;subst he;simp only[Option.some.injEq,Prod.mk.injEq]at h;obtain⟨rfl,rfl,rfl⟩:=h;obtain⟨n1,sz1,hI,hsl⟩:=hv;obtain⟨rfl,rfl,vv,h2,e1,e2,e3⟩:=q9z hS (T:= .o t) (fr:=fr||v.flat) (v:=v) (ys:=zs) (by simp only[jb9,ho]) hI;have hs:=tf.of_row h2 (off:=0) (m:=zs.length) (by omega) (by rw[e1];exact hsl);rw[e1]at hs;refine stay _ (hs.mono fun i f hi hf y hy=> ?_);simp only[Nat.zero_add]at hy;exact e3 i f hf y hy
   ·cases h
  ·cases h
 ·rename_i T hne;split at h
  ·rename_i fr v zs hrow;split at h
   ·rename_i he _;subst he;simp only[Option.some.injEq,Prod.mk.injEq]at h;obtain⟨rfl,rfl,rfl⟩:=h;obtain⟨n1,sz1,hI,hsl⟩:=hv;obtain⟨rfl,rfl,vv,h2,e1,e2,e3⟩:=q9z hS hrow hI;have hs:=tf.of_row h2 (off:=0) (m:=zs.length) (by omega) (by rw[e1];exact hsl);rw[e1]at hs;refine stay _ (hs.mono fun i f hi hf y hy=> ?_);simp only[Nat.zero_add]at hy;exact e3 i f hf y hy
   ·cases h
  ·cases h
 ·rename_i T off n;split at h
  ·rename_i fr v zs hrow;split at h
   ·rename_i he _;subst he;obtain⟨hfl,h⟩:=ai h;simp only[Option.some.injEq,Prod.mk.injEq]at h;obtain⟨rfl,rfl,hys⟩:=h;obtain⟨n1,sz1,hI,hle,hsl⟩:=hv;obtain⟨rfl,rfl,vv,h2,e1,e2,e3⟩:=q9z hS hrow hI;have hs:=tf.of_row h2 (off:=off) (m:=n) (by omega) (by rw[e1];exact hsl);rw[e1]at hs;have hys:(zs.drop off).take n=ys:=hys;have hlen:n=ys.length:=by rw[←hys];simp;omega
    refine stay _ ?_;rw[←hlen];refine hs.mono fun i f hi hf y hy=> ?_
    have:=e3 (off+i) f hf y hy;have e:ys.getD i v.dft=zs.getD (off+i) v.dft:=by
     rw[←hys];simp only[List.getD_eq_getElem?_getD,List.getElem?_take,if_pos hi,List.getElem?_drop]
    rw[e];exact this
   ·cases h
  ·cases h
 ·cases h
theorem jvj(hF:c9 P tt){X:Ctx Rf}(hK:∀t,br X.kp t=false→K t=false){st ty el:TypeId}{u:Ty}{ei:TI}(hE:ElOK tt st el u ei){s:TS}{a:Act}{w:World}{σ:Pl}(hr:c7 U w0 σ0 K N s a w σ){Hv:List TOb}(hl:HLe F Hv s.H){d:TV}{fr' :Bool}{ys:List u.den}
  {k:List St→TV→Option R} {r:R} (h:jo4 X el u ei d Hv fr' ys k=some r) {vd sv:Value} (hd:VR (gr U (vw s.H) w σ) d vd) (hs:tf (gr U (vw s.H) w σ) u.sz ys.length (fun i f=>(u.cells fr' (ys.getD i u.dft)).getD f .any) sv) (hn:K Hv.length=false) (hnew:∀δ v,k δ v=some r→∀t o,St.new t o∈δ→F t):
  ∃δ T,k δ (.own T)=some r∧qoj P U w0 σ0 K N (s.aps δ) T a w st ty vd sv:=by
 have nil:F Hv.length→SlR w σ (.o Hv.length) u.sz 0 0 vd→room ys.length ei.bytes=true→qoj P U w0 σ0 K N (s.aps [.sb (bh Hv.length), .new Hv.length (.arr el (.fz fr') (fg X.tt el) u ys)]) (.o Hv.length) a w st ty vd sv:=by
  intro hfp hsl hroom;obtain⟨hr1,hmv,_⟩:=hr.pushNil (hl.free _ (Nat.le_refl _) hfp) hl.len el (.fz true) (fg X.tt el) u;have ho1:(ey s.H Hv.length (.arr el (.fz true) (fg X.tt el) u []))[Hv.length]? =some (.arr el (.fz true) (fg X.tt el) u []):=by rw[io _ _ _ hl.len,if_pos rfl]
  have hs1:=tf.goes (G:=gr U (vw s.H) w σ) (G1:=gr U (vw (ey s.H Hv.length (.arr el (.fz true) (fg X.tt el) u []))) w σ) (δ:=[]) rfl hmv (fun i f=>rfl) hs;have:=jej (st:=st) (ty:=ty) (s:=⟨s.S,ey s.H Hv.length (.arr el (.fz true) (fg X.tt el) u [])⟩) hF hr1 hE ho1 hn (off:=0) (n:=0) hsl (by simp) hs1 (by simpa using hroom);have e:(ci (bh Hv.length) (ey s.H Hv.length (.arr el (.fz true) (fg X.tt el) u []))).set Hv.length (.arr el (.fz (true&&fr')) (fg X.tt el) u ((([]:List u.den).drop 0).take 0++ys))=ey (ci (bh Hv.length) s.H) Hv.length (.arr el (.fz fr') (fg X.tt el) u ys):=jin _ _ _ hl.len _ _;rw[show(TS.mk s.S (ey s.H Hv.length (.arr el (.fz true) (fg X.tt el) u []))).H=ey s.H Hv.length (.arr el (.fz true) (fg X.tt el) u [])from rfl,e]at this;exact this
 unfold jo4 at h;split at h
 ·have hroom:=(cf h).1
  replace h:=(cf h).2
  have hd:vd= .slice none 0 0:=hd;exact⟨_,_,h,nil (hnew _ _ h _ _ (by simp;rfl)) (.inl ⟨none,hd,rfl⟩) hroom⟩
 ·have hroom:=(cf h).1
  replace h:=(cf h).2
  obtain⟨b,hd⟩:=hd;exact⟨_,_,h,nil (hnew _ _ h _ _ (by simp;rfl)) (.inl ⟨b,hd,rfl⟩) hroom⟩
 ·rename_i tg;split at h
  ·rename_i ty0 md its u2 xs hov;have ho:=hl.ob hov;split at h
   ·rename_i h2 _;cases h2;have hb:=(ai h).1
    replace h:=(ai h).2
    simp only[Bool.and_eq_true,Bool.not_eq_true']at hb;have e1:=aw hb.1;subst e1;split at h
    ·rename_i fr;have hroom:=(cf h).1
     replace h:=(cf h).2
     obtain⟨n1,sz1,hI,hsl⟩:=hd;have hI' :aj (vw s.H) (.o tg)=some (n1,sz1):=hI;simp only[aj,ax ho,Option.map_some,Option.some.injEq,Prod.mk.injEq]at hI';obtain⟨rfl,rfl⟩:=hI';have:=jej (st:=st) (ty:=ty) hF hr hE ho (hK tg hb.2) (off:=0) hsl (by simp) hs hroom;simp only[List.drop_zero,List.take_length]at this;exact⟨_,_,h,this⟩
    ·have hb2:=(ai h).1
     replace h:=(ai h).2
     have hroom:=(cf h).1
     replace h:=(cf h).2
     obtain⟨σ1,hr1,hmv⟩:=jfc (U:=U) (w0:=w0) (σ0:=σ0) (K:=K) (N:=N) (s:=s) hl (t:=tg) a w σ hr;have hd1:=hmv _ _ hd;rw[(qxw Hv tg tg).own]at hd1;have ho1:(s.aps (qa1 Hv tg)).H[tg]? =some (.arr ty0 (.fz true) its u xs):=by
      rw[qki];unfold qa1;simp only[hov,ia,hAp];exact List.getElem?_set_self (by rw[ck];exact(List.getElem?_eq_some_iff.1 ho).1)
     obtain⟨n1,sz1,hI,hsl⟩:=hd1;have hI' :aj (vw (s.aps (qa1 Hv tg)).H) (.o tg)=some (n1,sz1):=hI;simp only[aj,ax ho1,Option.map_some,Option.some.injEq,Prod.mk.injEq]at hI';obtain⟨rfl,rfl⟩:=hI';have hs1:=tf.goes (G:=gr U (vw s.H) w σ) (G1:=gr U (vw (s.aps (qa1 Hv tg)).H) w σ1) (δ:=qa1 Hv tg) rfl hmv (fun i f=>qoh _ _ _ _ _) hs;have:=jej (st:=st) (ty:=ty) hF hr1 hE ho1 (hK tg hb.2) (off:=0) hsl (by simp) hs1 hroom;simp only[List.drop_zero,List.take_length]at this;exact⟨_,_,h,by rw[qfx];exact this⟩
    ·cases h
   ·cases h
  ·cases h
 ·rename_i tg off n;split at h
  ·rename_i ty0 fr its u2 xs hov;have ho:=hl.ob hov;split at h
   ·rename_i h2 _;cases h2;have hb:=(ai h).1
    replace h:=(ai h).2
    simp only[Bool.and_eq_true,Bool.not_eq_true']at hb;have e1:=aw hb.1;subst e1;have hroom:=(cf h).1
    replace h:=(cf h).2
    obtain⟨n1,sz1,hI,hle,hsl⟩:=hd;have hI' :aj (vw s.H) (.o tg)=some (n1,sz1):=hI;simp only[aj,ax ho,Option.map_some,Option.some.injEq,Prod.mk.injEq]at hI';obtain⟨rfl,rfl⟩:=hI';exact⟨_,_,h,jej (st:=st) (ty:=ty) hF hr hE ho (hK tg hb.2) hsl hle hs hroom⟩
   ·cases h
  ·cases h
 ·rename_i tg i f;split at h
  ·rename_i ty0 its u2 xs hov;have ho:=hl.ob hov;split at h
   ·rename_i v zs hin;split at h
    ·rename_i h2 _;cases h2;have hb:=(ai h).1
     replace h:=(ai h).2
     simp only[Bool.and_eq_true]at hb;obtain⟨hb1,hb2⟩:=hb;subst hb2;split at h
     ·rename_i x' hset;have hroom:=(cf h).1
      replace h:=(cf h).2
      exact⟨_,_,h,jvm (st:=st) (ty:=ty) hF hr hE ho hin (aw hb1) hd hs hset hroom⟩
     ·cases h
    ·cases h
   ·cases h
  ·rename_i kt v ety es hov;have ho:=hl.obo hov;split at h
   ·rename_i h2 _;cases h2;have hb:=(ai h).1
    replace h:=(ai h).2
    simp only[Bool.and_eq_true]at hb;obtain⟨⟨hb1,hb2⟩,hb3⟩:=hb;have e1:=aw hb1;have e3:=aw hb3;subst e1;subst e3;subst hb2;have hc:=(bv h).1
    replace h:=(bv h).2
    exact⟨_,_,h,jz4 (st:=st) (ty:=ty) hF hr hE ho (cz (hc _ (List.mem_cons_self ..))) hd hs (hc _ (List.mem_cons_of_mem _ (List.mem_cons_self ..)))⟩
   ·cases h
  ·cases h
 ·cases h
theorem jmq(hF:c9 P tt){X:Ctx Rf}(hK:∀t,br X.kp t=false→K t=false){st ty el:TypeId}{u:Ty}{ei:TI}(hE:ElOK tt st el u ei){s:TS}{a:Act}{w:World}{σ:Pl}(hr:c7 U w0 σ0 K N s a w σ){Hv:List TOb}(hl:HLe F Hv s.H){d:TV}{cells:List TV}{src:Src u}(hsrc:j3k X Hv el u cells=some src)
  {k:List St→TV→Option R} {r:R} (h:(match src with| .row t2 x=>jeh X el u ei d Hv (some t2) x k| .nils x=>jeh X el u ei d Hv none x k)=some r) {vd sv:Value} (hd:VR (gr U (vw s.H) w σ) d vd) (hs:tf (gr U (vw s.H) w σ) u.sz 1 (fun i f=>cells.getD (i*u.sz+f) .any) sv) (hn:K Hv.length=false) (hnew:∀δ v,k δ v=some r→∀t o,St.new t o∈δ→F t):
  ∃δ T,k δ (.own T)=some r∧qoj P U w0 σ0 K N (s.aps δ) T a w st ty vd sv:=by
 unfold j3k at hsrc;split at hsrc
 ·cases hsrc
 ·cases hb:ji3 (u.cells true u.dft) cells with
  |true=>
   rw[hb]at hsrc;simp only[cond_true]at hsrc;split at hsrc
   ·rename_i x g hpk;cases hsrc;simp only[jeh]at h;split at h
    ·have hroom:=(cf h).1
     replace h:=(cf h).2
     have hd:vd= .slice none 0 0:=hd;obtain⟨hr1,hmv,_⟩:=hr.pushNil (hl.free _ (Nat.le_refl _) (hnew _ _ h _ _ (by simp;rfl))) hl.len el .own (fg X.tt el) u;have ho1:(ey s.H Hv.length (.arr el .own (fg X.tt el) u []))[Hv.length]? =some (.arr el .own (fg X.tt el) u []):=by rw[io _ _ _ hl.len,if_pos rfl]
     have hs1:=tf.goes (G:=gr U (vw s.H) w σ) (G1:=gr U (vw (ey s.H Hv.length (.arr el .own (fg X.tt el) u []))) w σ) (δ:=[]) rfl hmv (fun i f=>rfl) hs;have:=jhf (st:=st) (ty:=ty) (s:=⟨s.S,ey s.H Hv.length (.arr el .own (fg X.tt el) u [])⟩) hF hr1 hE ho1 hn (vd:=vd) (.inl ⟨none,hd,rfl⟩) hb hpk hs1 hroom;have e:(ci (bh Hv.length) (ey s.H Hv.length (.arr el .own (fg X.tt el) u []))).set Hv.length (.arr el .own (fg X.tt el) u ([]++[x]))=ey (ci (bh Hv.length) s.H) Hv.length (.arr el .own (fg X.tt el) u [x]):=jin _ _ _ hl.len _ _;rw[show(TS.mk s.S (ey s.H Hv.length (.arr el .own (fg X.tt el) u []))).H=ey s.H Hv.length (.arr el .own (fg X.tt el) u [])from rfl,e]at this;exact⟨_,_,h,this⟩
    ·rename_i tg;split at h
     ·rename_i ty0 its u2 xs hov;have ho:=hl.ob hov;split at h
      ·rename_i h2 _;cases h2;have hb2:=(ai h).1
       replace h:=(ai h).2
       simp only[Bool.and_eq_true,Bool.not_eq_true']at hb2;have e1:=aw hb2.1;subst e1;have hroom:=(cf h).1
       replace h:=(cf h).2
       obtain⟨n1,sz1,hI,hsl⟩:=hd;have hI' :aj (vw s.H) (.o tg)=some (n1,sz1):=hI;simp only[aj,ax ho,Option.map_some,Option.some.injEq,Prod.mk.injEq]at hI';obtain⟨rfl,rfl⟩:=hI';exact⟨_,_,h,jhf (st:=st) (ty:=ty) hF hr hE ho (hK tg hb2.2) hsl hb hpk hs hroom⟩
      ·cases h
     ·cases h
    ·cases h
   ·cases hsrc
  |false=>
   rw[hb]at hsrc;simp only[cond_false]at hsrc;split at hsrc
   ·rename_i v t2 _ _;split at hsrc
    ·rename_i ty2 fr2 its2 v2 ys hov2;have ho2:=hl.ob hov2;split at hsrc
     ·rename_i h2 _;cases h2;have hb3:=(ai hsrc).1
      replace hsrc:=(ai hsrc).2
      simp only[Bool.and_eq_true,Bool.not_eq_true']at hb3;obtain⟨⟨hb31,hb32⟩,hb33⟩:=hb3;cases hsrc;have hlt2:t2<Hv.length:=(List.getElem?_eq_some_iff.1 hov2).1;simp only[jeh]at h;split at h
      ·have hroom:=(cf h).1
       replace h:=(cf h).2
       have hd:vd= .slice none 0 0:=hd;obtain⟨hr1,hmv,_⟩:=hr.pushNil (hl.free _ (Nat.le_refl _) (hnew _ _ h _ _ (by simp;rfl))) hl.len el .own (fg X.tt el) (.slice v);have ho1:(ey s.H Hv.length (.arr el .own (fg X.tt el) (.slice v) []))[Hv.length]? =some (.arr el .own (fg X.tt el) (.slice v) []):=by rw[io _ _ _ hl.len,if_pos rfl]
       have ho12:(ey s.H Hv.length (.arr el .own (fg X.tt el) (.slice v) []))[t2]? =some (.arr ty2 (.fz fr2) its2 v ys):=by rw[io _ _ _ hl.len,if_neg (by omega)];exact ho2
       have hs1:=tf.goes (G:=gr U (vw s.H) w σ) (G1:=gr U (vw (ey s.H Hv.length (.arr el .own (fg X.tt el) (.slice v) []))) w σ) (δ:=[]) rfl hmv (fun i f=>rfl) hs;have:=jmr (st:=st) (ty:=ty) (s:=⟨s.S,ey s.H Hv.length (.arr el .own (fg X.tt el) (.slice v) [])⟩) hF hr1 hE ho1 hn ho12 (by omega) hb32 (aw hb33) (hK t2 hb31) (vd:=vd) (.inl ⟨none,hd,rfl⟩) hs1 hroom;refine⟨_,_,h,?_⟩;have e:((ci (ow t2 Hv.length 0 0) (ci (bh Hv.length) (ey s.H Hv.length (.arr el .own (fg X.tt el) (.slice v) [])))).set Hv.length (.arr el .own (fg X.tt el) (.slice v) ([]++[ys]))).set t2 .gone=ey ((ci (ow t2 Hv.length 0 0) (ci (bh Hv.length) s.H)).set t2 .gone) Hv.length (.arr el .own (fg X.tt el) (.slice v) [ys]):=by
        apply List.ext_getElem?;intro t;have hl2:Hv.length≤((ci (ow t2 Hv.length 0 0) (ci (bh Hv.length) s.H)).set t2 .gone).length:=by rw[List.length_set,ck,ck];exact hl.len
        have hl3:Hv.length<(ci (ow t2 Hv.length 0 0) (ci (bh Hv.length) (ey s.H Hv.length (.arr el .own (fg X.tt el) (.slice v) [])))).length:=by rw[ck,ck];exact(List.getElem?_eq_some_iff.1 ho1).1
        rw[io _ _ _ hl2];by_cases e:t=t2
        ·subst e;rw[if_neg (by omega),List.getElem?_set_self (by rw[List.length_set];omega),List.getElem?_set_self (by rw[ck,ck];exact(List.getElem?_eq_some_iff.1 ho2).1)]
        ·rw[List.getElem?_set_ne (Ne.symm e)];by_cases e2:t=Hv.length
         ·subst e2;rw[if_pos rfl,List.getElem?_set_self hl3];rfl
         ·rw[if_neg e2,List.getElem?_set_ne (Ne.symm e2),List.getElem?_set_ne (Ne.symm e),fp,fp,fp,fp,io _ _ _ hl.len,if_neg e2]
       have this' :qoj P U w0 σ0 K N ⟨sbS (ow t2 Hv.length 0 0) (sbS (bh Hv.length) s.S),_⟩ (.o Hv.length) a w st ty vd sv:=this;rw[show(TS.mk s.S (ey s.H Hv.length (.arr el .own (fg X.tt el) (.slice v) []))).H=ey s.H Hv.length (.arr el .own (fg X.tt el) (.slice v) [])from rfl]at this';have e' :=e;rw[show([]:List (Ty.slice v).den).length=0 from rfl]at this';exact(congrArg (fun Z=>qoj P U w0 σ0 K N ⟨sbS (ow t2 Hv.length 0 0) (sbS (bh Hv.length) s.S),Z⟩ (.o Hv.length) a w st ty vd sv) e).mp this'
      ·rename_i tg;split at h
       ·rename_i ty0 its u2 xs hov;have ho:=hl.ob hov;split at h
        ·rename_i h2 _;cases h2;have hb2:=(ai h).1
         replace h:=(ai h).2
         simp only[Bool.and_eq_true,Bool.not_eq_true']at hb2;have e1:=aw hb2.1;subst e1;have hb4:=(ai h).1
         replace h:=(ai h).2
         simp only[Bool.and_eq_true,Bool.not_eq_true']at hb4;have hroom:=(cf h).1
         replace h:=(cf h).2
         obtain⟨n1,sz1,hI,hsl⟩:=hd;have hI' :aj (vw s.H) (.o tg)=some (n1,sz1):=hI;simp only[aj,ax ho,Option.map_some,Option.some.injEq,Prod.mk.injEq]at hI';obtain⟨rfl,rfl⟩:=hI';exact⟨_,_,h,jmr (st:=st) (ty:=ty) hF hr hE ho (hK tg hb2.2) ho2 (fun e=>by rw[e,Nat.beq_refl]at hb4;exact absurd hb4.1 (by simp)) hb32 ((aw hb33).trans (aw hb4.2).symm) (hK t2 hb31) hsl hs hroom⟩
        ·cases h
       ·cases h
      ·cases h
     ·cases hsrc
    ·cases hsrc
   ·cases hsrc
theorem jvk(hF:c9 P tt){X:Ctx Rf}(hK:∀t,br X.kp t=false→K t=false){st ty el:TypeId}{u:Ty}{ei:TI}(hE:ElOK tt st el u ei){s:TS}{a:Act}{w:World}{σ:Pl}(hr:c7 U w0 σ0 K N s a w σ){Hv:List TOb}(hl:HLe F Hv s.H){d x:TV}
  {k:List St→TV→Option R} {r:R} (h:jei X el u ei d x Hv k=some r) {vd sv:Value} (hd:VR (gr U (vw s.H) w σ) d vd) (hv:VR (gr U (vw s.H) w σ) x sv) (hn:∀t,Hv.length≤t→K t=false) (hnew:∀δ v,k δ v=some r→∀t o,St.new t o∈δ→F t):
  ∃δ T,k δ (.own T)=some r∧qoj P U w0 σ0 K N (s.aps δ) T a w st ty vd sv:=by
 have dat:∀x,VR (gr U (vw s.H) w σ) x sv→qmp X el u ei d x Hv k=some r→∃δ T,k δ (.own T)=some r∧qoj P U w0 σ0 K N (s.aps δ) T a w st ty vd sv:=by
  intro x hv h;unfold qmp at h;split at h
  ·rename_i δ fr' ys hsrc;obtain⟨σ1,hr1,hl1,hmv,hs⟩:=jof hK hr hl hsrc hv;have hlen:∀(δ:List St) (H:List TOb),H.length≤(ia H δ).length:=by
    intro δ
    induction δ with
    |nil=>intro H;exact Nat.le_refl _
    |cons y δ ih=>
     intro H;refine Nat.le_trans ?_ (ih (hAp H y));cases y with
     |sb θ=>simp only[hAp,ck];exact Nat.le_refl _
     |set t o=>simp[hAp]
     |new t o=>
      simp only[hAp,ey];cases Nat.blt t H.length<;>simp
   obtain⟨δ',T,hk,hap⟩:=jvj (st:=st) (ty:=ty) hF hK hE hr1 hl1 h (hmv _ _ hd) hs (hn _ (hlen δ Hv)) (fun δ' v hk t o hm=>hnew _ _ hk t o (List.mem_append.2 (.inr hm)));exact⟨_,_,hk,by rw[qfx];exact hap⟩
  ·cases h
 unfold jei at h;split at h
 ·rename_i t;split at h
  ·rename_i ty0 sz n cs hov;cases hb:jxw Hv d&&Nat.beq n 1&&Nat.beq sz u.sz with
   |false=>rw[hb]at h;exact dat _ hv h
   |true=>
    rw[hb]at h;simp only[cond_true]at h;simp only[Bool.and_eq_true]at hb;have e1:=aw hb.1.2;have e2:=aw hb.2;subst e1;have hsrcR:tf (gr U (vw s.H) w σ) u.sz 1 (fun i f=>cs.getD (i*u.sz+f) .any) sv:=by
     obtain⟨n1,sz1,hI,hsl⟩:=hv;obtain⟨h1,h2⟩:=(hl.sees hr.hr).see _ _ (qch hov);rw[hI]at h1;simp only[Option.some.injEq,Prod.mk.injEq]at h1;obtain⟨rfl,rfl⟩:=h1;have hs:=tf.of_row h2 (off:=0) (m:=1) (by simp) hsl;rw[e2]at hs;refine hs.mono fun i f hi hf y hy=> ?_
     simp only[Nat.zero_add]at hy;exact hy
    split at h
    ·rename_i t2 x hsrc;exact jmq (st:=st) (ty:=ty) hF hK hE hr hl hsrc h hd hsrcR (hn _ (Nat.le_refl _)) hnew
    ·rename_i x hsrc;exact jmq (st:=st) (ty:=ty) hF hK hE hr hl hsrc h hd hsrcR (hn _ (Nat.le_refl _)) hnew
    ·exact dat _ hv h
  ·exact dat _ hv h
 ·exact dat _ hv h
end
end Go.K
namespace Go.K
open Go.M Go.RowKit
variable {F : Nat → Prop}
section
variable {U : Nat → Prop} {w0 : World} {σ0 : Pl} {K : Nat → Bool} {N : Nat} {P : Program} {tt : TT} {R Rf : Type}
def ot(P:Program)(U:Nat→Prop)(w0:World)(σ0:Pl)(K:Nat→Bool)(N:Nat)(o:Oper)(s:TS)(a:Act)(w:World)(k:List St→TV→Option R)(r:R):Prop:=
 ∃δ v,k δ v=some r∧∀(Q:Exit→Act→World→Prop) (KK:Act→World→Prop),(∀a' w' σ',c7 U w0 σ0 K N ((s.aps δ).put o.dst v) a' w' σ' →KK a' w')→o.wp P a w KK Q
theorem ot.val{o:Oper}{s:TS}{a:Act}{w w' :World}{σ' :Pl}{k:List St→TV→Option R}{r:R}{δ:List St}{v:TV}{u:Value}(hk:k δ v=some r)(hrun:(execOp a.eval o).run P w= .ok (.value u) w')(hr:c7 U w0 σ0 K N (s.aps δ) a w' σ')
  (hv:VR (gr U (vw (s.aps δ).H) w' σ') v u):ot P U w0 σ0 K N o s a w k r:=by
 refine⟨δ,v,hk,fun Q KK h=> ?_⟩;unfold Oper.wp;rw[hrun];exact h _ _ _ (hr.put o.dst hv)
theorem q9a{o:Oper}{s:TS}{a:Act}{w w1:World}{σ:Pl}(hr:c7 U w0 σ0 K N s a w σ){Hv:List TOb}(hl:HLe F Hv s.H)(hn:K Hv.length=false){k:List St→TV→Option R}{r:R}(hnew:∀δ v,k δ v=some r→∀t o,St.new t o∈δ→F t){ob:TOb}{v:TV}{u:Value}{bl:Obj}(hk:k [.new Hv.length ob] v=some r)
  (hrun:(execOp a.eval o).run P w1= .ok (.value u) (w.alloc bl))
  (hobj:∀G',G' =gr U (vw (ey s.H Hv.length ob)) (w.alloc bl) (fun T=>if T= .o Hv.length then some (w.heap.size,0)else σ T)→Mv (fun _=> .id) (gr U (vw s.H) w σ) G' →∀T v,T.ob=Hv.length→vw (ey s.H Hv.length ob) T=some v→OR G' (if T= .o Hv.length then some (w.heap.size,0)else none) v)
  (hdom:∃v,vw (ey s.H Hv.length ob) (.o Hv.length)=some v)
  (hv:∀G',G' =gr U (vw (ey s.H Hv.length ob)) (w.alloc bl) (fun T=>if T= .o Hv.length then some (w.heap.size,0)else σ T)→VR G' v u):ot P U w0 σ0 K N o s a w1 k r:=by
 obtain⟨hr1,_⟩:=hr.alloc (hl.free _ (Nat.le_refl _) (hnew _ _ hk _ _ (by simp;rfl))) hl.len hn ob bl hobj hdom;exact ot.val (σ' :=fun T=>if T= .o Hv.length then some (w.heap.size,0)else σ T) hk hrun hr1 (hv _ rfl)
theorem jlu{o:Oper}{s:TS}{a:Act}{w:World}{σ:Pl}(hr:c7 U w0 σ0 K N s a w σ){Hv:List TOb}(hl:HLe F Hv s.H)(hn:K Hv.length=false){k:List St→TV→Option R}{r:R}(hnew:∀δ v,k δ v=some r→∀t o,St.new t o∈δ→F t){v:TV}{u:Value}{cells:Array Value}{ty:TypeId}{sz n:Nat}{cs:List TV}
  (hk:k [.new Hv.length (.cs ty sz n cs)] v=some r) (hrun:(execOp a.eval o).run P w= .ok (.value u) (w.alloc (.cells cells ty))) (hcs:jp (gr U (vw s.H) w σ) cells.toList cs) (hlen:cs.length=n*sz) (hp0:0<sz∨0<n)
  (hv:∀G',G'.σ (.o Hv.length)=some (w.heap.size,0)→G'.I (.o Hv.length)=some (n,sz)→G'.w=w.alloc (.cells cells ty)→VR G' v u):ot P U w0 σ0 K N o s a w k r:=by
 have hat:(ey s.H Hv.length (.cs ty sz n cs))[Hv.length]? =some (.cs ty sz n cs):=by rw[io _ _ _ hl.len,if_pos rfl]
 refine q9a hr hl hn hnew hk hrun (fun G' hG m T v hT hv=> ?_) ⟨_,qch hat⟩ (fun G' hG=>hv G' (by rw[hG];simp[gr]) (by rw[hG];simp[gr,aj,qch hat]) (by rw[hG];rfl));cases T with
 |r t i f=>simp only[TG.ob]at hT;subst hT;simp[vw,hat,vwR]at hv
 |o t=>
  simp only[TG.ob]at hT;subst hT;rw[qch hat]at hv;cases hv;rw[if_pos rfl];refine .inl ⟨hp0,cells,n,by rw[hG];exact heap_alloc_new w _,by rw[←Array.length_toList,hcs.1.len,hlen];simp,Nat.le_refl _,fun i f hi hf=> ?_⟩;have hj:i*sz+f<cs.length:=by
   have:(i+1)*sz≤n*sz:=Nat.mul_le_mul_right _ hi;rw[Nat.add_mul]at this;simp only[]at hf;omega
  obtain⟨x,hx,hV⟩:=hcs.1.getD (i*sz+f) hj;refine⟨x,by simpa using hx,hcs.2 x (List.mem_of_getElem? hx),?_⟩;have:=VR.mv m _ x hV;rwa[TV.sb_id]at this
theorem q0g:∀(cs:List TV) (z:List Value),q0f cs z=true→cs.length=z.length∧∀(f:Nat) u,z[f]? =some u→(∀G,VR G (cs.getD f .any) u)∧∀fr v ys,cs.getD f .any= .sl fr v ys→ys=[]∧u= .slice none 0 0:=by
 intro cs z;have step:∀(A:TV) (u0:Value) (l:List TV) (l' :List Value),(l.length=l'.length∧∀(f:Nat) u,l'[f]? =some u→(∀G,VR G (l.getD f .any) u)∧∀fr v ys,l.getD f .any= .sl fr v ys→ys=[]∧u= .slice none 0 0)→
   ((∀G,VR G A u0)∧∀fr v ys,A= .sl fr v ys→ys=[]∧u0= .slice none 0 0)→
   (A::l).length=(u0::l').length∧∀(f:Nat) u,(u0::l')[f]? =some u→(∀G,VR G ((A::l).getD f .any) u)∧∀fr v ys,(A::l).getD f .any= .sl fr v ys→ys=[]∧u= .slice none 0 0:=by
  intro A u0 l l' ⟨h1,h2⟩ h3;refine⟨by simp[h1],fun f u hu=> ?_⟩;cases f with
  |zero=>simp only[List.getElem?_cons_zero,Option.some.injEq]at hu;subst hu;exact h3
  |succ f=>exact h2 f u (by simpa using hu)
 fun_induction q0f cs z with
 |case1=>exact fun _=>⟨rfl,fun f u hu=>by simp at hu⟩
 |case2 k n l k' m l' ih=>
  intro h;simp only[Bool.and_eq_true,decide_eq_true_eq]at h;obtain⟨⟨rfl,rfl⟩,h⟩:=h;exact step _ _ _ _ (ih h) ⟨fun G=>rfl,fun fr v ys e=>by cases e⟩
 |case3 b l b' l' ih=>
  intro h;simp only[Bool.and_eq_true,beq_iff_eq]at h;obtain⟨rfl,h⟩:=h;exact step _ _ _ _ (ih h) ⟨fun G=>rfl,fun fr v ys e=>by cases e⟩
 |case4 l l' ih=>
  intro h;exact step _ _ _ _ (ih h) ⟨fun G=>rfl,fun fr v ys e=>by cases e⟩
 |case5 fr0 t0 l l' ih=>
  intro h;exact step _ _ _ _ (ih h) ⟨fun G=>⟨none,0,rfl,Nat.le_refl _,Nat.zero_le _,fun h=>absurd h (by simp)⟩,fun fr v ys e=>by cases e;exact⟨rfl,rfl⟩⟩
 |case6=>intro h;cases h
theorem q04{el:TypeId}{u:Ty}{ei:TI}(h:elT tt el=some (u,ei)):tt el=some ei∧u.sz=ei.sz∧0<ei.sz∧ei.zero.length=ei.sz∧uy ei.zero=true∧q0f (u.cells true u.dft) ei.zero=true:=by
 unfold elT at h;split at h
 ·rename_i ei' u' h1 h2;obtain⟨hb,h⟩:=ai h;cases h;simp only[Bool.and_eq_true]at hb;obtain⟨⟨⟨⟨a,b⟩,c⟩,d⟩,e⟩:=hb;exact⟨h1,aw a,cz b,aw c,d,e⟩
 ·cases h
theorem jf6(z:Array Value)(n sz i f:Nat)(hz:z.size=sz)(hf:f<sz)(hlt:i*sz+f<n):(madeCells z n)[i*sz+f]? =z[f]? :=by
 subst hz;have:(i*z.size+f) % z.size=f:=by rw[Nat.mul_comm,Nat.mul_add_mod,Nat.mod_eq_of_lt hf]
 simp[madeCells,hlt,this,hf]
end
end Go.K
namespace Go.K
open Go.M Go.RowKit
variable {F : Nat → Prop}
section
variable {U : Nat → Prop} {w0 : World} {σ0 : Pl} {K : Nat → Bool} {N : Nat} {P : Program} {tt : TT} {R Rf : Type}
theorem jlv{o:Oper}{s:TS}{a:Act}{w w1:World}{σ:Pl}(hr:c7 U w0 σ0 K N s a w σ){Hv:List TOb}(hl:HLe F Hv s.H)(hn:K Hv.length=false){k:List St→TV→Option R}{r:R}(hnew:∀δ v,k δ v=some r→∀t o,St.new t o∈δ→F t){u:Ty}{fr:Bool}{xs:List u.den}{its:List TypeId}{cells:Array Value}{ty:TypeId}{c:Nat}
  (hk:k [.new Hv.length (.arr ty (.fz fr) its u xs)] (.own (.o Hv.length))=some r) (hrun:(execOp a.eval o).run P w1= .ok (.value (.slice (some ⟨w.heap.size,0,none⟩) xs.length c)) (w.alloc (.cells cells ty))) (hlc:xs.length≤c) (hcm:c≤maxLen) (hsz:cells.size=c*u.sz) (hp0:0<u.sz)
  (hcell:∀i f,i<xs.length→f<u.sz→∃y,cells[i*u.sz+f]? =some y∧y.oneCell' =true∧u.C w (YY (cn σ) U fr) (xs.getD i u.dft) f y):ot P U w0 σ0 K N o s a w1 k r:=by
 have hat:(ey s.H Hv.length (.arr ty (.fz fr) its u xs))[Hv.length]? =some (.arr ty (.fz fr) its u xs):=by rw[io _ _ _ hl.len,if_pos rfl]
 refine q9a hr hl hn hnew hk hrun (fun G' hG m T v hT hv=> ?_) ⟨_,ax hat⟩ (fun G' hG=> ?_)
 ·cases T with
  |r t i f=>simp only[TG.ob]at hT;subst hT;rw[jj hat,if_neg (by simp[Md.isOwn])]at hv;cases hv
  |o t=>
   simp only[TG.ob]at hT;subst hT;rw[ax hat]at hv;cases hv;rw[if_pos rfl];refine .inl ⟨.inl hp0,cells,c,by rw[hG];exact heap_alloc_new w _,by rw[hsz];simp,hlc,fun i f hi hf=> ?_⟩;obtain⟨y,hy,h1,hC⟩:=hcell i f hi hf;refine⟨y,by simpa using hy,h1,?_⟩;simp only[kf];have hV:=(Ty.C_iff (gr U (vw s.H) w σ) fr u _ f y hf).1 hC;have:=VR.mv m _ y hV;rwa[TV.sb_id]at this
 ·rw[hG];refine⟨xs.length,u.sz,by simp[gr,aj,ax hat], .inr ⟨w.heap.size,0,c,cells,ty,by simp[gr],by simp,hlc,hcm,heap_alloc_new w _,by simpa using hsz⟩⟩
theorem jwt{o:Oper}{s:TS}{a:Act}{w:World}{σ:Pl}(hr:c7 U w0 σ0 K N s a w σ){Hv:List TOb}(hl:HLe F Hv s.H)(hn:K Hv.length=false){k:List St→TV→Option R}{r:R}(hnew:∀δ v,k δ v=some r→∀t o,St.new t o∈δ→F t){u:Ty}{n:Nat}{its:List TypeId}{cells:Array Value}{ty:TypeId}{c:Nat}{z:List Value}(hz:q0f (u.cells true u.dft) z=true)(hz1:uy z=true)
  (hk:k [.new Hv.length (.arr ty .own its u (List.replicate n u.dft))] (.own (.o Hv.length))=some r) (hrun:(execOp a.eval o).run P w= .ok (.value (.slice (some ⟨w.heap.size,0,none⟩) n c)) (w.alloc (.cells cells ty))) (hlc:n≤c) (hcm:c≤maxLen) (hsz:cells.size=c*u.sz) (hp0:0<u.sz)
  (hcell:∀i f,i<n→f<u.sz→cells[i*u.sz+f]? =z[f]?):ot P U w0 σ0 K N o s a w k r:=by
 have hat:(ey s.H Hv.length (.arr ty .own its u (List.replicate n u.dft)))[Hv.length]? =some (.arr ty .own its u (List.replicate n u.dft)):=by rw[io _ _ _ hl.len,if_pos rfl]
 obtain⟨hzl,hzc⟩:=q0g _ _ hz;rw[Ty.cells_len]at hzl;have hget:∀i,(List.replicate n u.dft).getD i u.dft=u.dft:=by
  intro i;rw[List.getD_eq_getElem?_getD,List.getElem?_replicate];split<;>rfl
 refine q9a hr hl hn hnew hk hrun (fun G' hG m T v hT hv=> ?_) ⟨_,ax hat⟩ (fun G' hG=> ?_)
 ·cases T with
  |r t i f=>
   simp only[TG.ob]at hT;subst hT;rw[jj hat]at hv;split at hv
   ·rw[hget]at hv;cases hq:dv u u.dft f with
    |none=>rw[hq]at hv;cases hv
    |some y=>
     obtain⟨v0,ys⟩:=y;rw[hq]at hv;cases hv;rw[if_neg (by simp)];have hf:=qk3 hq;obtain⟨zu,hzu⟩:∃zu,z[f]? =some zu:=⟨_,List.getElem?_eq_getElem (by omega)⟩;obtain⟨fr0,hc⟩:=q8n hq;rw[((hzc f zu hzu).2 _ _ _ hc).1];rfl
   ·cases hv
  |o t=>
   simp only[TG.ob]at hT;subst hT;rw[ax hat]at hv;cases hv;rw[if_pos rfl];refine .inl ⟨.inl hp0,cells,c,by rw[hG];exact heap_alloc_new w _,by rw[hsz];simp,by simpa using hlc,fun i f hi hf=> ?_⟩;simp only[List.length_replicate]at hi;obtain⟨zu,hzu⟩:∃zu,z[f]? =some zu:=⟨_,List.getElem?_eq_getElem (by simp only[]at hf;omega)⟩;refine⟨zu,by rw[Nat.zero_add];exact(hcell i f hi hf).trans hzu,?_,?_⟩
   ·simp only[uy,List.all_eq_true]at hz1;exact hz1 _ (List.mem_of_getElem? hzu)
   ·simp only[];unfold bx;rw[hget];simp only[Md.fr];split
    ·rename_i fr0 v0 ys0 e;obtain⟨rfl,rfl⟩:=(hzc f zu hzu).2 _ _ _ e;have hin:=qms e;refine⟨0,v0.sz,?_, .inl ⟨none,rfl,rfl⟩⟩;rw[hG];simp only[gr,aj];rw[qfi hat rfl (by simpa using hi) (by rw[hget];exact hin)];rfl
    ·exact(hzc f zu hzu).1 G'
 ·rw[hG];refine⟨n,u.sz,by simp[gr,aj,ax hat], .inr ⟨w.heap.size,0,c,cells,ty,by simp[gr],by simp,hlc,hcm,heap_alloc_new w _,by simpa using hsz⟩⟩
theorem jrq(hF:c9 P tt){o:Oper}{s:TS}{a:Act}{w:World}{σ:Pl}(hr:c7 U w0 σ0 K N s a w σ){Hv:List TOb}(hl:HLe F Hv s.H)(hn:K Hv.length=false){k:List St→TV→Option R}{r:R}(hnew:∀δ v,k δ v=some r→∀t o,St.new t o∈δ→F t){t:TypeId}{x:TI}(ho:o.op= .alloc t)(ht:tt t=some x)(hz:x.zero.length=x.sz)(hz1:uy x.zero=true)
  (hk:k [.new Hv.length (.cs t x.sz 1 (x.zero.map ofV))] (.ptr (.o Hv.length) (.ofNat 0) 0)=some r):ot P U w0 σ0 K N o s a w k r:=by
 obtain⟨i,d,z,h1,h2,h3,h4,h5,h6,h7⟩:=(hF t x ht).1;have hrun:(execOp a.eval o).run P w= .ok (.value (.pointer (some ⟨w.heap.size,0,none⟩))) (w.alloc (.cells z.cells t)):=by
  unfold execOp;simp[ho,Instr.alloc,zeroValue,typeInfo,h1,h6,newVar,newRow]
 exact jlu hr hl hn hnew hk hrun (by rw[h7];exact qwv hz1) (by simp[hz]) (.inr Nat.one_pos) fun G' e1 e2 _=>⟨w.heap.size,0,1,x.sz,e1,e2,by simp⟩
theorem j0a{o:Oper}{s:TS}{a:Act}{w:World}{σ:Pl}(hr:c7 U w0 σ0 K N s a w σ){Hv:List TOb}(hl:HLe F Hv s.H)(hn:K Hv.length=false){k:List St→TV→Option R}{r:R}(hnew:∀δ v,k δ v=some r→∀t o,St.new t o∈δ→F t){t:TypeId}{x:Operand}{sz:Nat}{A:TV}{cs:List TV}(ho:o.op= .box t x)(hA:VR (gr U (vw s.H) w σ) A (a.eval x))(hc:qjj sz A=some cs)
  (hk:k [.new Hv.length (.cs t sz 1 cs)] (.ptr (.o Hv.length) (.ofNat 0) 0)=some r):ot P U w0 σ0 K N o s a w k r:=by
 obtain⟨hlen,hcs⟩:=t8 hc hA;have hrun:(execOp a.eval o).run P w= .ok (.value (.pointer (some ⟨w.heap.size,0,none⟩))) (w.alloc (.cells (a.eval x).cells t)):=by
  unfold execOp;simp[ho,Instr.box,newVar,newRow]
 exact jlu hr hl hn hnew hk hrun hcs (by simp[hlen]) (.inr Nat.one_pos) fun G' e1 e2 _=>⟨w.heap.size,0,1,sz,e1,e2,by simp⟩
theorem jwm(hF:c9 P tt){o:Oper}{s:TS}{a:Act}{w:World}{σ:Pl}(hr:c7 U w0 σ0 K N s a w σ){Hv:List TOb}(hl:HLe F Hv s.H)(hn:K Hv.length=false){k:List St→TV→Option R}{r:R}(hnew:∀δ v,k δ v=some r→∀t o,St.new t o∈δ→F t){t el:TypeId}{b1 b2:Nat}{z1:List Value}{l c:Operand}{u:Ty}{ei:TI}{k1 k2:IntKind}{lv cv:Int}{its:List TypeId}(ho:o.op= .makeSlice t l c)
  (ht:tt t=some ⟨.slice el,b1,b2,z1⟩) (hel:elT tt el=some (u,ei)) (hlv:a.eval l= .int k1 lv) (hcv:a.eval c= .int k2 cv) (hm:qv2 lv cv ei.bytes=true)
  (hk:k [.new Hv.length (.arr el (bif u.flat then .fz true else .own) its u (List.replicate lv.toNat u.dft))] (.own (.o Hv.length))=some r):ot P U w0 σ0 K N o s a w k r:=by
 obtain⟨hti,husz,hpos,hz,hz1,hzB⟩:=q04 hel;obtain⟨i,d,z,h1,h2,h3,h4,h5,h6,h7⟩:=(hF el ei hti).1;simp only[qv2,Bool.and_eq_true,decide_eq_true_eq]at hm;obtain⟨⟨⟨h0,hlc⟩,hby⟩,h63⟩:=hm;have hr' :=run_make (P:=P) w t el i z (f8 hF ht) h1 h6 k1 k2 lv cv h0 hlc (by rw[h5];exact hby) h63;have hrun:(execOp a.eval o).run P w= .ok (.value (.slice (some ⟨w.heap.size,0,none⟩) lv.toNat cv.toNat)) (w.alloc (.cells (madeCells z.cells (cv.toNat*i.size)) el)):=by
  unfold execOp;simp only[ho,hlv,hcv];simp[hr']
 have hzs:z.cells.size=ei.sz:=by rw[←Array.length_toList,h7,hz]
 have hms:(madeCells z.cells (cv.toNat*i.size)).size=cv.toNat*u.sz:=by rw[size_madeCells,h4,husz]
 have hat:∀j f,j<lv.toNat→f<u.sz→(madeCells z.cells (cv.toNat*i.size))[j*u.sz+f]? =ei.zero[f]? :=by
  intro j f hj hf;have:(j+1)*ei.sz≤cv.toNat*ei.sz:=Nat.mul_le_mul_right _ (by omega);rw[Nat.add_mul]at this;rw[husz]at hf⊢;rw[jf6 z.cells _ ei.sz j f hzs hf (by rw[h4];omega),←Array.getElem?_toList,h7]
 have hcm:cv.toNat≤maxLen:=by unfold maxLen;omega
 cases hfl:u.flat with
 |false=>
  rw[hfl]at hk;exact jwt hr hl hn hnew hzB hz1 hk hrun (by omega) hcm hms (by omega) hat
 |true=>
  rw[hfl]at hk;refine jlv hr hl hn hnew hk (by rw[List.length_replicate];exact hrun) (by rw[List.length_replicate];omega) hcm hms (by omega) (fun j f hj hf=> ?_);rw[List.length_replicate]at hj;obtain⟨hzl,hzc⟩:=q0g _ _ hzB;rw[Ty.cells_len]at hzl;obtain⟨zu,hzu⟩:∃zu,ei.zero[f]? =some zu:=⟨_,List.getElem?_eq_getElem (by omega)⟩;refine⟨zu,(hat j f hj hf).trans hzu,?_,?_⟩
  ·simp only[uy,List.all_eq_true]at hz1;exact hz1 _ (List.mem_of_getElem? hzu)
  ·have:(List.replicate lv.toNat u.dft).getD j u.dft=u.dft:=by
    rw[List.getD_eq_getElem?_getD,List.getElem?_replicate];split<;>rfl
   rw[this];exact(Ty.C_iff (gr U (vw s.H) w σ) true u u.dft f zu hf).2 ((hzc f zu hzu).1 _)
theorem qm1{kp:List Bool}:∀(l:List TG) (H:List TOb) (δ:List St),lj kp l H=some δ→(ia H δ).length=H.length
 |[],H,δ,h=>by simp only[lj,Option.some.injEq]at h;subst h;rfl
 | .o t::l,H,δ,h=>by
  simp only[lj]at h;obtain⟨_,h⟩:=ai h;split at h
  ·rename_i δ1 h1;cases h;rw[rb,qm1 l _ δ1 h1];simp only[q5l,ia,hAp,List.length_set,ck]
  ·cases h
 | .r t i f::l,H,δ,h=>by
  simp only[lj]at h;obtain⟨_,h⟩:=ai h;split at h
  ·rename_i δ1 h1;cases h;rw[rb,qm1 l _ δ1 h1];unfold qa1;split
   ·simp only[ia,hAp,List.length_set,ck]
   ·rfl
  ·cases h
theorem jrz(hF:c9 P tt){o:Oper}{s:TS}{a:Act}{w:World}{σ:Pl}(hr:c7 U w0 σ0 K N s a w σ){Hv:List TOb}(hl:HLe F Hv s.H)(hn:K Hv.length=false){k:List St→TV→Option R}{r:R}(hnew:∀δ v,k δ v=some r→∀t o,St.new t o∈δ→F t){t el:TypeId}{b1 b2:Nat}{z1:List Value}{len:Nat}{ps:Array (Nat×Operand)}{ei:TI}{L:List TV}{X:Ctx Rf}{e:Operand→TV}(hX:X.tt=tt)(ho:o.op= .buildSlice t len ps)
  (ht:tt t=some ⟨.slice el,b1,b2,z1⟩) (hel:tt el=some ei) (hL:qrb (fun i=>some (i*ei.sz,ei.sz)) ((List.range (len*ei.sz)).map fun j=>ofV (ei.zero.getD (j % ei.sz) undef)) (ps.toList.map fun p=>(p.1,e p.2))=some L)
  (hps:∀p∈ps.toList,VR (gr U (vw s.H) w σ) (e p.2) (a.eval p.2)) (hz:ei.zero.length=ei.sz) (hz1:uy ei.zero=true) (hpos:0<ei.sz) (hcap:len*ei.sz≤16777216)
  (hk:k [.new Hv.length (jgw X el ei len L)] (.own (.o Hv.length))=some r):ot P U w0 σ0 K N o s a w k r:=by
 obtain⟨i,d,z,h1,h2,h3,h4,h5,h6,h7⟩:=(hF el ei hel).1;have hzs:z.cells.size=ei.sz:=by rw[←Array.length_toList,h7,hz]
 have hzero:∀j,j<ei.sz→z.cells[j]! =ei.zero.getD j undef:=by
  intro j hj;have hj' :j<z.cells.size:=by omega
  have e1:z.cells[j]? =ei.zero[j]? :=by rw[←Array.getElem?_toList,h7]
  rw[List.getD_eq_getElem?_getD,←e1];simp[hj']
 have hcr:jp (gr U (vw s.H) w σ) (if len*ei.sz=0 then #[]else(Array.range (len*ei.sz)).map (z.cells[· % z.cells.size]!)).toList ((List.range (len*ei.sz)).map fun j=>ofV (ei.zero.getD (j % ei.sz) undef)):=by
  have hone:∀j,j<ei.sz→(ei.zero.getD j undef).oneCell' =true:=by
   intro j hj;simp only[uy,List.all_eq_true]at hz1;rw[List.getD_eq_getElem?_getD,List.getElem?_eq_getElem (by omega)];exact hz1 _ (List.getElem_mem (by omega))
  have hget:∀(j:Nat) y,(if len*ei.sz=0 then #[]else(Array.range (len*ei.sz)).map (z.cells[· % z.cells.size]!))[j]? =some y→y=ei.zero.getD (j % ei.sz) undef:=by
   intro j y hy;split at hy
   ·simp at hy
   ·rename_i hne;have hj:j<len*ei.sz:=by
     rcases Nat.lt_or_ge j (len*ei.sz)with h' |h'
     ·exact h'
     ·rw[Array.getElem?_eq_none (by simpa using h')]at hy;cases hy
    have hm:j % ei.sz<ei.sz:=Nat.mod_lt _ hpos;simp[hj,hzs,hzero _ hm]at hy;rw[←hy];simp[List.getD_eq_getElem?_getD]
  refine⟨fj.of (by rw[Array.length_toList];split<;>simp_all) fun j A y hA hy=> ?_,fun y hy=> ?_⟩
  ·have hj:j<len*ei.sz:=by
    rcases Nat.lt_or_ge j (len*ei.sz)with h' |h'
    ·exact h'
    ·rw[List.getElem?_eq_none (by simpa using h')]at hA;cases hA
   rw[List.getElem?_map,List.getElem?_range hj]at hA;simp only[Option.map_some,Option.some.injEq]at hA;subst hA;rw[Array.getElem?_toList]at hy;rw[hget j y hy];exact jkk _ _
  ·obtain⟨j,hj⟩:=List.getElem?_of_mem hy;rw[Array.getElem?_toList]at hj;rw[hget j y hj];exact hone _ (Nat.mod_lt _ hpos)
 obtain⟨cells',hfill,hrel⟩:=qrc (ps.toList.map fun p=>(p.1,e p.2)) (ps.toList.map fun p=>(p.1,a.eval p.2)) _ _ L hcr (by simp) (by
  intro j p v hp hv;rw[List.getElem?_map]at hp hv;cases hq:ps.toList[j]? with
  |none=>simp[hq]at hp
  |some q=>
   simp only[hq,Option.map_some,Option.some.injEq]at hp hv;subst hp;subst hv;exact⟨rfl,hps q (List.mem_of_getElem? hq)⟩) hL
 have hLl:L.length=len*ei.sz:=by rw[jfk _ _ _ hL];simp
 have hrun:(execOp a.eval o).run P w= .ok (.value (.slice (some ⟨w.heap.size,0,none⟩) len len)) (w.alloc (.cells cells' el)):=by
  unfold execOp;simp only[ho,Instr.buildSlice,Sem.run_bind,run_underlying (f8 hF ht),Result.andThen_ok,ca hF hel];rw[if_neg (by omega)];have hps:(ps.map fun x=>(x.1,a.eval x.2)).toList=ps.toList.map fun p=>(p.1,a.eval p.2):=by simp
  by_cases h0:len*ei.sz=0
  ·simp only[h0,if_true]at hfill;simp only[Sem.run_pure,Result.andThen_ok,pure_bind,Sem.run_bind,h0,if_true,hps];have:((Array.range 0).map fun x=>(#[]:Array Value)[x % (#[]:Array Value).size]!)= #[]:=by simp[Array.range_zero']
   rw[this,hfill];simp[newRow]
  ·simp only[h0,if_false]at hfill;simp only[Sem.run_pure,Result.andThen_ok,pure_bind,Sem.run_bind,h0,if_false,hps,zeroValue,typeInfo,run_program,h1,h6,hfill];simp[newRow]
 have hlm:len≤maxLen:=by
  unfold maxLen;have:len*1≤len*ei.sz:=Nat.mul_le_mul_left _ hpos;omega
 have hcl:cells'.size=len*ei.sz:=by rw[←Array.length_toList,hrel.1.len,hLl]
 have hcs:k [.new Hv.length (.cs el ei.sz len L)] (.own (.o Hv.length))=some r→ot P U w0 σ0 K N o s a w k r:=by
  intro hk;exact jlu hr hl hn hnew hk hrun hrel hLl (.inl hpos) fun G' e1 e2 e3=>⟨len,ei.sz,e2, .inr ⟨w.heap.size,0,len,cells',el,e1,by simp,Nat.le_refl _,hlm,by rw[e3];exact heap_alloc_new w _,by simpa using hcl⟩⟩
 unfold jgw at hk;split at hk
 ·rename_i u ei2 hel2;rw[hX]at hel2;obtain⟨hti,husz,_⟩:=q04 hel2;rw[hel]at hti;cases hti;split at hk
  ·rename_i xs fr hpk;obtain⟨hxl,_,hC⟩:=Ty.packN_ok (G:=gr U (vw s.H) w σ) hpk;cases hb:(X.dt||(u.flat||js2 L||Nat.beq len 0))with
   |false=>rw[hb]at hk;exact hcs hk
   |true=>
    rw[hb]at hk;refine jlv hr hl hn hnew hk (by rw[hxl];exact hrun) (Nat.le_of_eq hxl) hlm (by rw[hcl,husz]) (by omega) (fun j f hj hf=> ?_);rw[hxl]at hj;have hjl:j*u.sz+f<L.length:=by
     have:(j+1)*u.sz≤len*u.sz:=Nat.mul_le_mul_right _ hj;rw[Nat.add_mul]at this;rw[hLl,←husz];omega
    obtain⟨y,hy,hV⟩:=hrel.1.getD (j*u.sz+f) hjl;exact⟨y,by simpa using hy,hrel.2 y (List.mem_of_getElem? hy),Ty.C_fl (G:=gr U (vw s.H) w σ) (fun e=>by simpa using e) (hC j f hj hf y hV)⟩
  ·exact hcs hk
 ·exact hcs hk
theorem jux(hF:c9 P tt){o:Oper}{s:TS}{a:Act}{w:World}{σ:Pl}(hr:c7 U w0 σ0 K N s a w σ){Hv:List TOb}(hl:HLe F Hv s.H){X:Ctx Rf}(hK:∀t,br X.kp t=false→K t=false){k:List St→TV→Option R}{r:R}{t:TypeId}{p x:Operand}{ti:TI}{A B:TV}(ho:o.op= .store t p x)(ht:tt t=some ti)
  (hp:VR (gr U (vw s.H) w σ) A (a.eval p)) (hx:VR (gr U (vw s.H) w σ) B (a.eval x)) (hk:qwn X ti A B Hv (fun δ=>k δ .any)=some r):ot P U w0 σ0 K N o s a w k r:=by
 obtain⟨δ,hk,hsz,ad,w',σ',hpv,hrun,hr'⟩:=jq1 (P:=P) hK hr hl hk hp hx;have hrun:(execOp a.eval o).run P w= .ok .skip w' :=by
  unfold execOp;simp only[ho,Instr.storeAt,hpv,Instr.sureAddr,storeVar,Sem.run_bind,Sem.run_pure,Result.andThen_ok,ca hF ht,hsz,ne_eq,not_true,if_false,hrun]
 refine⟨δ, .any,hk,fun Q KK h=> ?_⟩;unfold Oper.wp;rw[hrun];exact h _ _ _ (hr'.put o.dst trivial)
theorem ir{α β:Type}{m:Sem α}{f:α→Sem β}{w w' :World}{b:β}(h:(m>>=f).run P w= .ok b w'):∃a w1,m.run P w= .ok a w1∧(f a).run P w1= .ok b w' :=by
 rw[Sem.run_bind]at h;cases hm:m.run P w with
 |ok a w1=>rw[hm]at h;exact⟨a,w1,rfl,h⟩
 |halt x y=>rw[hm]at h;cases h
theorem q4u.room{base:Option Addr}{n m c:Nat}(hn:q4u (.slice base n c))(h:n+m≤c):q4u (.slice base (n+m) c):=by
 intro a c' e;simp only[Value.slice.injEq]at e;obtain⟨rfl,e2,rfl⟩:=e;have h0:n=0:=by omega
 subst h0;exact hn _ _ rfl
theorem q4u.big{a:Option Addr}{n c d:Nat}(h:¬n≤c):q4u (.slice a n d):=by
 intro a' c' e;simp only[Value.slice.injEq]at e;omega
theorem append_nil{st el ty:TypeId}(hst:P.underlying st=some (.slice el)){vd sv v:Value}{w w' :World}(h:(Builtin.append_ #[st,st] ty #[vd,sv]).run P w= .ok v w')(hn:q4u vd):q4u v:=by
 unfold Builtin.append_ at h;split at h
 ·rename_i sT s x e3;have e1:st=sT:=by simpa using congrArg Prod.fst e3
  have e2:vd=s:=by simpa using congrArg (fun p=>p.2.1) e3
  subst e1;subst e2;clear e3;obtain⟨t1,w1,h1,h⟩:=ir h;rw[run_underlying hst]at h1;cases h1;dsimp only at h;cases vd with
  |slice base sLen sCap=>
   dsimp only at h;obtain⟨size,w2,h2,h⟩:=ir h;have e0:(#[st,st]:Array TypeId)[1]? =some st:=rfl;rw[e0]at h;dsimp only at h;obtain⟨t1,w3,h1,h⟩:=ir h;rw[run_underlying hst]at h1;cases h1;dsimp only at h;obtain⟨z,w4,h4,h⟩:=ir h;cases h4;rw[if_neg (by decide)]at h;obtain⟨n,w5,h5,h⟩:=ir h;by_cases hle:sLen+n≤sCap
   ·rw[if_pos hle]at h;obtain⟨new,w6,h6,h⟩:=ir h;have hr:v= .slice base (sLen+n) sCap:=by
     cases base with
     |none=>cases h;rfl
     |some ad=>
      obtain⟨_,_,_,h⟩:=ir h;cases h;rfl
    rw[hr];exact hn.room hle
   ·rw[if_neg hle]at h;have hr:∃ad c,v= .slice ad (sLen+n) c:=by
     obtain⟨i1,w6,h6,h⟩:=ir h;split at h
     ·obtain⟨_,_,hb,_⟩:=ir h;cases hb
     ·obtain⟨i2,w7,h7,h⟩:=ir h;split at h
      ·obtain⟨_,_,hb,_⟩:=ir h;rw[if_neg (by decide)]at hb;obtain⟨ms,w8,_,hb⟩:=ir hb;split at hb
       ·obtain⟨_,_,_,hb⟩:=ir hb;cases hb
       ·cases hb
      ·obtain⟨_,_,_,h⟩:=ir h;obtain⟨_,_,_,h⟩:=ir h;obtain⟨_,_,_,h⟩:=ir h;obtain⟨_,_,_,h⟩:=ir h;obtain⟨_,_,_,h⟩:=ir h;obtain⟨_,_,_,h⟩:=ir h;obtain⟨_,_,_,h⟩:=ir h;cases h;exact⟨_,_,rfl⟩
    obtain⟨ad,c,hr⟩:=hr;rw[hr];exact q4u.big hle
  |_=>cases h
 ·cases h
theorem jo7(hF:c9 P tt){o:Oper}{s:TS}{a:Act}{w:World}{σ:Pl}(hr:c7 U w0 σ0 K N s a w σ){Hv:List TOb}(hl:HLe F Hv s.H){X:Ctx Rf}(hK:∀t,br X.kp t=false→K t=false)(hn:∀t,Hv.length≤t→K t=false){k:List St→TV→Option R}{r:R}(hnew:∀δ v,k δ v=some r→∀t o,St.new t o∈δ→F t){t el:TypeId}{b1 b2:Nat}{z1:List Value}{d x:Operand}{u:Ty}{ei:TI}{A B:TV}(ho:o.op= .call ⟨.builtin .append,⟨[d,x]⟩,⟨[t,t]⟩⟩)(ht:tt t=some ⟨.slice el,b1,b2,z1⟩)(hel:elT tt el=some (u,ei))
  (hd:VR (gr U (vw s.H) w σ) A (a.eval d)) (hx:VR (gr U (vw s.H) w σ) B (a.eval x)) {nf:Bool} (hnf:nf=true→q4u (a.eval d)) (hk:jei X el u ei A B Hv (fun δ v=>k δ (bif nf then .nl (some false) v else v))=some r):ot P U w0 σ0 K N o s a w k r:=by
 obtain⟨hti,husz,hpos,hz,_,_⟩:=q04 hel;obtain⟨δ,T,hk,v',w',σ',hrun,hr',hV⟩:=jvk (st:=t) (ty:=o.type) hF hK ⟨⟨b1,b2,z1,ht⟩,hti,husz.symm,by omega,hz⟩ hr hl hk hd hx hn (fun δ v hk t o hm=>hnew δ _ hk t o hm);have hnil:=fun hn0:q4u (a.eval d)=>append_nil (f8 hF ht) hrun hn0
 have hrun:(execOp a.eval o).run P w= .ok (.value v') w' :=by
  unfold execOp;simp only[ho,resolve,invoke,builtin,Sem.run_bind,Sem.run_pure,Result.andThen_ok,List.map_toArray,List.map_cons,List.map_nil,hrun]
 refine ot.val hk hrun hr' ?_;cases nf with
 |false=>exact hV
 |true=>exact⟨hV,hnil (hnf rfl)⟩
theorem jck(z:Array Value)(n sz i f:Nat)(hz:z.size=sz)(hf:f<sz)(hi:i<n):(Builtin.zeroCells z n)[i*sz+f]? =z[f]? :=by
 subst hz;have:(i*z.size+f) % z.size=f:=by rw[Nat.mul_comm,Nat.mul_add_mod,Nat.mod_eq_of_lt hf]
 have hlt:i*z.size+f<n*z.size:=by
  have:(i+1)*z.size≤n*z.size:=Nat.mul_le_mul_right _ hi;rw[Nat.add_mul]at this;omega
 simp[Builtin.zeroCells,hlt,this,hf]
theorem c7.drew{s:TS}{a:Act}{w:World}{σ:Pl}(h:c7 U w0 σ0 K N s a w σ):c7 U w0 σ0 K N s a w.drew σ:=by
 have hV:∀T:TG,¬False→vw s.H T=(vw s.H T).map (Vw.sb fun _=> .id):=fun T _=>(qk8 _).symm
 have hm:Mv (fun _=> .id) (gr U (vw s.H) w σ) (gr U (vw s.H) w.drew σ):=
  Mv.upd h.hr (fun _=>False) (Nat.le_refl _) hV (fun T _=>rfl) (fun T g o _ _=>rfl) (fun b _ _=>rfl) (fun T g o hT=>hT.elim) (fun T q _ T' e=>by cases e) (fun T T' q hT=>hT.elim) (fun T fr u xs q e=>by cases e)
 refine ARel.go h hm (fun t=>(TV.sb_id _).symm) ?_;exact h.hr.upd (fun _=>False) hm hV (fun T _=>rfl) (fun T g o _ _=>rfl) (fun T v hT=>hT.elim) (fun T p hT=>hT.elim) (fun T g o hT=>hT.elim) h.hr.inj rfl rfl rfl (fun t _ hT=>hT.elim) (fun t g o _ hT=>hT.elim)
theorem jvl(hF:c9 P tt){o:Oper}{s:TS}{a:Act}{w:World}{σ:Pl}(hr:c7 U w0 σ0 K N s a w σ){Hv:List TOb}(hl:HLe F Hv s.H){X:Ctx Rf}(hX:X.tt=tt)(hn:K Hv.length=false){k:List St→TV→Option R}{r:R}(hnew:∀δ v,k δ v=some r→∀t o,St.new t o∈δ→F t){t t' :TypeId}{d x:Operand}{A B:TV}
  (ho:o.op= .call ⟨.builtin .append,⟨[d,x]⟩,⟨[t,t']⟩⟩) (hd:VR (gr U (vw s.H) w σ) A (a.eval d)) (hx:VR (gr U (vw s.H) w σ) B (a.eval x)) (hk:jo6 X t t' A B Hv k=some r):ot P U w0 σ0 K N o s a w k r:=by
 unfold jo6 at hk;rw[hX]at hk;split at hk
 ·rename_i el b1 b2 z1 kn c1 c2 z2 ht ht';split at hk
  ·rename_i u ei hel;split at hk
   ·rename_i kx n hgd hgx;have hfl:=(ai hk).1
    replace hk:=(ai hk).2
    have hC:=(bv hk).1
    replace hk:=(bv hk).2
    obtain⟨h1,h2⟩:=gm.app hC;obtain⟨h2,h3⟩:=gm.app h2;have v1:=hd.gt h1;have v2:=hx.gt h2;rw[hgd]at v1;rw[hgx]at v2;simp only[VR]at v1 v2;have hn0:=h3 _ List.mem_cons_self;have hrm:=h3 _ (List.mem_cons_of_mem _ List.mem_cons_self);simp only[room,Bool.and_eq_true,decide_eq_true_eq]at hn0 hrm;obtain⟨hti,husz,hpos,hz,hz1,hzB⟩:=q04 hel;obtain⟨i,dd,z,g1,g2,g3,g4,g5,g6,g7⟩:=(hF el ei hti).1;have hnn:((n.toNat:Nat):Int)=n:=Int.toNat_of_nonneg (by omega);have hzs:z.cells.size=ei.sz:=by rw[←Array.length_toList,g7,hz]
    have hge:=grownCap_ge w n.toNat 0 el;have hcm:grownCap w n.toNat 0 el≤maxLen:=grownCap_le_maxLen w n.toNat 0 el (by unfold maxLen;omega);have hrun0:=Lib.run_append_nil_zeros (P:=P) w t t' o.type el i z kx kn (f8 hF ht) (q0a hF ht') g1 g6 n.toNat (by omega) (by omega) (by omega) (by rw[g5];omega);rw[hnn]at hrun0;have hrun:(execOp a.eval o).run P w= .ok (.value (.slice (some ⟨w.drew.heap.size,0,none⟩) (List.replicate n.toNat u.dft).length (grownCap w n.toNat 0 el))) (w.drew.alloc (.cells (Builtin.zeroCells z.cells n.toNat++Builtin.zeroCells z.cells (grownCap w n.toNat 0 el-n.toNat)) el)):=by
     rw[List.length_replicate];unfold execOp;simp only[ho,resolve,invoke,builtin,Sem.run_bind,Sem.run_pure,Result.andThen_ok,List.map_toArray,List.map_cons,List.map_nil,v1,v2,hrun0];rfl
    refine jlv hr.drew hl hn hnew hk hrun (by rw[List.length_replicate];exact hge) hcm (by rw[Array.size_append,size_zeroCells,size_zeroCells,hzs,husz,←Nat.add_mul];congr 1;omega) (by omega) (fun j f hj hf=> ?_);rw[List.length_replicate]at hj;obtain⟨hzl,hzc⟩:=q0g _ _ hzB;rw[Ty.cells_len]at hzl;obtain⟨zu,hzu⟩:∃zu,ei.zero[f]? =some zu:=⟨_,List.getElem?_eq_getElem (by omega)⟩;have hlt:j*u.sz+f<(Builtin.zeroCells z.cells n.toNat).size:=by
     rw[size_zeroCells,hzs,←husz];have:(j+1)*u.sz≤n.toNat*u.sz:=Nat.mul_le_mul_right _ hj;rw[Nat.add_mul]at this;omega
    refine⟨zu,?_,?_,?_⟩
    ·rw[Array.getElem?_append_left hlt,husz,jck z.cells n.toNat ei.sz j f hzs (by omega) hj,←Array.getElem?_toList,g7];exact hzu
    ·simp only[uy,List.all_eq_true]at hz1;exact hz1 _ (List.mem_of_getElem? hzu)
    ·have:(List.replicate n.toNat u.dft).getD j u.dft=u.dft:=by
      rw[List.getD_eq_getElem?_getD,List.getElem?_replicate];split<;>rfl
     rw[this];exact(Ty.C_iff (gr U (vw s.H) w.drew σ) true u u.dft f zu hf).2 ((hzc f zu hzu).1 _)
   ·cases hk
  ·cases hk
 ·cases hk
theorem ARel.setMap{S:Nat→TV}{V:TG→Option Vw}{a:Act}{w:World}{σ:Pl}(h:ARel U w0 σ0 K N S V a w σ){T:TG}{v:Vw}(hT:V T=some v){g o:Nat}(hσ:σ T=some (g,o)){es:Array MapEntry}{c:Nat}(hh:w.heap[g]? =some (.map es c)){es' :Array MapEntry}{c' :Nat}{v' :Vw}
  (hvs:v.sz=0) (hvn:v.n=0) (hs:v'.sz=0) (hn:v'.n=0) (hmo:∀G',Mv (fun _=> .id) (gr U V w σ) G' →te G' v' es' c') {w' :World} (hw:w' ={w with heap:=w.heap.setIfInBounds g (.map es' c')}):
  ARel U w0 σ0 K N S (upd V T v') a w' σ:=by
 have hlt:g<w.heap.size:=(Array.getElem?_eq_some_iff.1 hh).1;have hrow:w'.heap[g]? =some (.map es' c'):=by rw[hw];simp[hlt]
 have hother:∀k,k≠g→w'.heap[k]? =w.heap[k]? :=fun k hk=>by rw[hw];simp[Ne.symm hk]
 have hsize:w'.heap.size=w.heap.size:=by rw[hw];simp
 have hI:aj (upd V T v')=aj V:=q8m hT (hn.trans hvn.symm) (hs.trans hvs.symm);have hown:cn σ g:=⟨T,o,hσ⟩;have hm:Mv (fun _=> .id) (gr U V w σ) (gr U (upd V T v') w' σ):=by
  refine⟨Nat.le_of_eq hsize.symm,fun _ _ hx=>hx,fun _ _ _ hu=>hu,fun b _ hx=>hother b (fun e=>hx (e▸hown)),fun T1 T2 q ht hq=> ?_,fun T1 fr u xs q e=>by cases e⟩;rcases ht with⟨_,rfl⟩|ht
  ·refine⟨by show aj _ T2=_;rw[hI];exact hq,fun g1 o1 hg1=>⟨hg1,fun cur1 e1 hc1=> ?_⟩⟩;by_cases e:g1=g
   ·subst e;have hc1' :w.heap[g1]? =some (.cells cur1 e1 (0,0)):=hc1;rw[hh]at hc1';cases hc1'
   ·exact⟨cur1,(hother g1 e).trans hc1,rfl⟩
  ·cases ht
 refine h.go hm (fun t=>(TV.sb_id _).symm) ⟨h.hr.inj,fun T1 p hp=> ?_,fun T1 v1 hv1=> ?_,h.hr.own,?_,?_,?_,by rw[hsize];exact h.hr.size,fun b hb hnb=> ?_,h.hr.keep,fun t g1 o1 ht hg1 cur1 e1 hc1=> ?_,h.hr.ulow,h.hr.tb0⟩
 ·by_cases e:T1=T
  ·exact⟨v',by simp[upd,e]⟩
  ·obtain⟨v1,hv1⟩:=h.hr.dom T1 p hp;exact⟨v1,by simp[upd,e,hv1]⟩
 ·by_cases e:T1=T
  ·subst e;simp only[upd,if_true,Option.some.injEq]at hv1;subst hv1;rw[hσ];exact .inr ⟨hs,hn,es',c',hrow,hmo _ hm⟩
  ·have hv1' :V T1=some v1:=by simpa[upd,e]using hv1
   refine(h.hr.obj T1 v1 hv1').mv hm (fun g1 o1 hp=>hother g1 (fun eg=> ?_)) rfl rfl rfl (fun i' f' _ _ u hu=>by have:=VR.mv hm _ u hu;rwa[TV.sb_id]at this) (fun _ _=>HZ.of hm fun _ _=>(TV.sb_id _).symm);subst eg;exact e (h.hr.inj T1 T g1 o1 o hp hσ)
 ·rw[hw];exact h.hr.os
 ·rw[hw];exact h.hr.tape
 ·rw[hw];exact h.hr.output
 ·refine(hother b (fun e=> ?_)).trans (h.hr.blk b hb hnb);subst e;rcases(h.hr.own T b o hσ).2 with hge|⟨T',o',h'⟩
  ·omega
  ·exact hnb T' o' h'
 ·obtain⟨cur2,h1,h2⟩:=h.hr.ksz t g1 o1 ht hg1 cur1 e1 hc1;by_cases e:g1=g
  ·subst e;rw[hh]at h1;cases h1
  ·exact⟨cur2,(hother g1 e).trans h1,h2⟩
theorem ji0{o:Oper}{s:TS}{a:Act}{w:World}{σ:Pl}(hr:c7 U w0 σ0 K N s a w σ){Hv:List TOb}(hl:HLe F Hv s.H){X:Ctx Rf}(hn:K Hv.length=false){k:List St→TV→Option R}{r:R}(hnew:∀δ v,k δ v=some r→∀t o,St.new t o∈δ→F t){t:TypeId}
  (hrun:∀kt et,(∃a b z,X.tt t=some ⟨.map kt et,a,b,z⟩)→(execOp a.eval o).run P w= .ok (.value (.map (some w.heap.size))) (w.alloc (.map #[] 0))) (hk:qv3 X t Hv k=some r):ot P U w0 σ0 K N o s a w k r:=by
 unfold qv3 at hk;split at hk
 ·rename_i kt et a1 b1 z1 ht;split at hk
  ·rename_i ku u _ _;split at hk
   ·rename_i ety _ _ _ _;have hat:(ey s.H Hv.length (.mo ku u ety [] none))[Hv.length]? =some (.mo ku u ety [] none):=by rw[io _ _ _ hl.len,if_pos rfl]
    refine q9a hr hl hn hnew hk (hrun kt et ⟨_,_,_,ht⟩) (fun G' hG m T v hT hv=> ?_) ⟨_,wc hat⟩ (fun G' hG=> ?_)
    ·cases T with
     |r t i f=>simp only[TG.ob]at hT;subst hT;rw[n5 hat]at hv;simp at hv
     |o t=>
      simp only[TG.ob]at hT;subst hT;rw[wc hat]at hv;cases hv;rw[if_pos rfl];exact .inr ⟨rfl,rfl,#[],0,by rw[hG];exact heap_alloc_new w _,te.mk' Stp.nil (fun i e he=>by simp at he) fun i _=>⟨rfl,rfl⟩⟩
    ·rw[hG];exact⟨w.heap.size,0,(0,0),by simp[gr],by simp[gr,aj,wc hat],rfl⟩
   ·cases hk
  ·rename_i ku vu _ _ _;have hat:(ey s.H Hv.length (.mp ku vu []))[Hv.length]? =some (.mp ku vu []):=by rw[io _ _ _ hl.len,if_pos rfl]
   refine q9a hr hl hn hnew hk (hrun kt et ⟨_,_,_,ht⟩) (fun G' hG m T v hT hv=> ?_) ⟨_,qmm hat⟩ (fun G' hG=> ?_)
   ·cases T with
    |r t i f=>simp only[TG.ob]at hT;subst hT;simp[vw,hat,vwR]at hv
    |o t=>
     simp only[TG.ob]at hT;subst hT;rw[qmm hat]at hv;cases hv;rw[if_pos rfl];refine .inr ⟨rfl,rfl,#[],0,by rw[hG];exact heap_alloc_new w _,te.mk' Stp.nil (fun i e he=>by simp at he) fun i _=>by simp[qt4]⟩
   ·rw[hG];exact⟨w.heap.size,0,(0,0),by simp[gr],by simp[gr,aj,qmm hat],rfl⟩
  ·cases hk
 ·cases hk
theorem jdu{s:TS}{a:Act}{w:World}{σ:Pl}(hr:c7 U w0 σ0 K N s a w σ){tg:Nat}{ku vu:Ty}{es es2:List (ku.den×vu.den)}(ho:s.H[tg]? =some (.mp ku vu es)){g oo:Nat}(hσ' :σ (.o tg)=some (g,oo)){hs:Array MapEntry}{c:Nat}(hh' :w.heap[g]? =some (.map hs c)){es' :Array MapEntry}{c' :Nat}
  (hent' :qpx ku vu es'.toList es2) (hst' :Stp es' c'):c7 U w0 σ0 K N ⟨s.S,s.H.set tg (.mp ku vu es2)⟩ a {w with heap:=w.heap.setIfInBounds g (.map es' c')} σ:=by
 have hlt:tg<s.H.length:=(List.getElem?_eq_some_iff.1 ho).1;have hat:(s.H.set tg (.mp ku vu es2))[tg]? =some (.mp ku vu es2):=List.getElem?_set_self hlt;have hr1:=hr.setMap (qmm ho) hσ' hh' (v' :=⟨0,0,0,fun i f=>qt4 ku vu es2 i f⟩) rfl rfl rfl rfl (fun _ _=>jm9 hent' hst') (c' :=c') rfl;obtain⟨hr2,_⟩:=ARel.setTo (tg:=tg) (T:= .o tg) (ob' := .mp ku vu es2) rfl hr1 (fun T' e=>by
  cases T' with
  |o t=>simp only[TG.ob]at e;subst e;simp only[aj,qmm hat,dj,Option.map_some]
  |r t i f=>simp only[TG.ob]at e;subst e;rw[show aj (upd (vw s.H) (.o t) ⟨0,0,0,fun i f=>qt4 ku vu es2 i f⟩) (.r t i f)=aj (vw s.H) (.r t i f) by simp only[aj,cr (show TG.r t i f≠ .o t by simp)]];simp[aj,vw,hat,ho,vwR]) (fun T' v' e hv' =>by
  cases T' with
  |o t=>
   simp only[TG.ob]at e;subst e;rw[qmm hat]at hv';cases hv';exact⟨_,dj _ _ _,rfl,fun i f _ _ y hy=>hy,qg1 _⟩
  |r t i f=>simp only[TG.ob]at e;subst e;simp[vw,hat,vwR]at hv')
 exact hr2
theorem jw6(hF:c9 P tt){t kt et:TypeId}{a1 b1:Nat}{z1:List Value}(ht:tt t=some ⟨.map kt et,a1,b1,z1⟩){ku:Ty}(hu:P.underlying kt=some ku.desc)(hone:ku.one=true){w:World}{g:Nat}{hs:Array MapEntry}{c:Nat}(hh:w.heap[g]? =some (.map hs c)){β:Type}{es:List (ku.den×β)}(hK:jki ku hs.toList es)(hst:Stp hs c)(ka:ku.den)(xv:Value):
  ∃es' c',(Instr.mapUpdate t (.map (some g)) (ku.v1 ka) xv).run P w= .ok () {w with heap:=w.heap.setIfInBounds g (.map es' c')}∧Stp es' c' ∧
   ((mIx ku ka es 0=none∧es' =hs.push {key:=ku.v1 ka,val:=xv,born:=c})∨∃j e p,mIx ku ka es 0=some j∧hs[j]? =some e∧es[j]? =some p∧e.key=ku.v1 ka∧es' =hs.modify j fun e=>{e with key:=ku.v1 ka,val:=xv}):=by
 have hck:=MapKept.run_checkKey (w:=w) hu (qog hone ka) false 9999;rcases qx3 hone ka hs.toList es 0 hK with⟨a0,_,a2⟩|⟨j,e,p,a0,_,a2,a4,a5,a6⟩
 ·have hfk:=MapKept.run_findKey (w:=w) hu a2;exact⟨hs.push {key:=ku.v1 ka,val:=xv,born:=c},c+1,by simp[Instr.mapUpdate,run_underlying (kz hF ht),MapKept.run_getObj_map hh,hck,hfk,MapKept.run_setObj_map _ hh],hst.push _ _, .inl ⟨a0,rfl⟩⟩
 ·have hfk:=MapKept.run_findKey (w:=w) hu a2;rw[Nat.zero_add]at hfk a0;have a4' :hs[j]? =some e:=by simpa using a4
  have hks:(Instr.keyThatStays (((hs[j]?).map (·.key)).getD (ku.v1 ka)) (ku.v1 ka)).run P w= .ok (ku.v1 ka) w:=by
   rw[a4'];simp only[Option.map_some,Option.getD_some,a6];exact MapKept.run_keyThatStays (qog hone ka)
  exact⟨hs.modify j fun e=>{e with key:=ku.v1 ka,val:=xv},c,by simp[Instr.mapUpdate,run_underlying (kz hF ht),MapKept.run_getObj_map hh,hck,hfk,hks,MapKept.run_setObj_map _ hh],hst.modify _ _ _, .inr ⟨j,e,p,a0,a4',a5,a6,rfl⟩⟩
theorem jtn(hF:c9 P tt){o:Oper}{s:TS}{a:Act}{w:World}{σ:Pl}(hr:c7 U w0 σ0 K N s a w σ){Hv:List TOb}(hl:HLe F Hv s.H){X:Ctx Rf}(hX:X.tt=tt){k:List St→TV→Option R}{r:R}{t:TypeId}{m key:Operand}{A B:TV}(hop:o.op= .lookup t m key false)
  (hA:VR (gr U (vw s.H) w σ) A (a.eval m)) (hB:VR (gr U (vw s.H) w σ) B (a.eval key)) (hk:jdi X t A B Hv k=some r):ot P U w0 σ0 K N o s a w k r:=by
 unfold jdi at hk;split at hk
 ·rename_i kt et a1 b1 z1 ht;split at hk
  ·rename_i ki ei tg hki hei;split at hk
   ·rename_i ku u ety es hov;split at hk
    ·rename_i ka hka;have hb:=(ai hk).1
     replace hk:=(ai hk).2
     simp only[Bool.and_eq_true]at hb;obtain⟨hb1,hb2,hb3⟩:=hb;rw[hX]at ht hki hei;obtain⟨hu,hone⟩:=qtp hF hki hb1;have hzero:=q4l hF hei hb2 hb3 w;obtain⟨g,oo,hs,c,hm,hσ,hh,hmo⟩:=jnp (hl.sees hr.hr) hov hA;have hh:w.heap[g]? =some (.map hs c):=hh;have hkey:=qvy hka hB;have hck:=MapKept.run_checkKey (w:=w) hu (qog hone ka) hs.isEmpty 9999;rcases qx3 hone ka hs.toList es 0 (qy7 hmo)with⟨a1,_,a3⟩|⟨j,e,p,a1,_,a3,a4,a5,_⟩
     ·have hfk:=MapKept.run_findKey (w:=w) hu a3;rw[a1]at hk;refine ot.val hk (σ' :=σ) (w' :=w) (u:= .slice none 0 0) ?_ hr rfl;unfold execOp;simp[hop,hm,hkey,Instr.lookup,run_underlying (kz hF ht),MapKept.run_getObj_map hh,hck,hfk,hzero]
     ·have hfk:=MapKept.run_findKey (w:=w) hu a3;rw[a1,Nat.zero_add]at hk;have hv:=(hmo.at_ (i:=j) (e:=e) (by simpa using a4)).2;have hv:VR (gr U (vw s.H) w σ) (moC tg ku es none j 1) e.val:=hv;rw[qi5 a5,if_neg (by simp)]at hv;refine ot.val hk (σ' :=σ) (w' :=w) (u:=e.val) ?_ hr hv;unfold execOp;simp[hop,hm,hkey,Instr.lookup,run_underlying (kz hF ht),MapKept.run_getObj_map hh,hck,hfk]
    ·cases hk
   ·cases hk
  ·cases hk
 ·cases hk
theorem jtv(hF:c9 P tt){o:Oper}{s:TS}{a:Act}{w:World}{σ:Pl}(hr:c7 U w0 σ0 K N s a w σ){Hv:List TOb}(hl:HLe F Hv s.H){X:Ctx Rf}(hX:X.tt=tt)(hK:∀t,br X.kp t=false→K t=false){k:List St→TV→Option R}{r:R}{t kt et:TypeId}{a1 b1:Nat}{z1:List Value}(ht:tt t=some ⟨.map kt et,a1,b1,z1⟩){ki:TI}(hki:tt kt=some ki){tg:Nat}{ku u:Ty}{ety:TypeId}{es:List (ku.den×List u.den)}{h:Option Nat}(hov:Hv[tg]? =some (.mo ku u ety es h))
  {m key x:Operand} {B C:TV} (hrun:∀w',(Instr.mapUpdate t (a.eval m) (a.eval key) (a.eval x)).run P w= .ok () w' →(execOp a.eval o).run P w= .ok .skip w')
  (hA:VR (gr U (vw s.H) w σ) (.mp (.o tg)) (a.eval m)) (hB:VR (gr U (vw s.H) w σ) B (a.eval key)) (hC:VR (gr U (vw s.H) w σ) C (a.eval x)) (hk:jdk X ki Hv tg ku u ety es h B C k=some r):ot P U w0 σ0 K N o s a w k r:=by
 have ho:=hl.obo hov;have hlt:tg<s.H.length:=(List.getElem?_eq_some_iff.1 ho).1;obtain⟨g,oo,hs,c,hm,hσ,hh,hmo⟩:=jnp (hl.sees hr.hr) hov hA;have hh:w.heap[g]? =some (.map hs c):=hh;have hσ' :σ (.o tg)=some (g,oo):=hσ;unfold jdk at hk;split at hk
 ·rename_i ka hka;have hb:=(ai hk).1
  replace hk:=(ai hk).2
  obtain⟨hu,hone⟩:=qtp hF hki hb;have hkey:=qvy hka hB;obtain⟨es',c',hupd,hst',hcase⟩:=jw6 hF ht hu hone hh (qy7 hmo) hmo.1 ka (a.eval x);rw[←hm,←hkey]at hupd;split at hk
  ·
   rename_i t' i f j;have hb1:=(ai hk).1
   replace hk:=(ai hk).2
   simp only[Bool.and_eq_true]at hb1;obtain⟨⟨hb1,hb2⟩,hb3⟩:=hb1;have e1:=aw hb1;have e2:=aw hb2;have e3:=aw hb3;subst e1;subst e2;subst e3;have hix:=(cf hk).1
   replace hk:=(cf hk).2
   rcases hcase with⟨e0,_⟩|⟨j',e,p,e0,e4,e5,e6,e7⟩
   ·rw[e0]at hix;cases hix
   ·rw[e0]at hix;have:=aw hix;subst this;have hjs:j' <hs.size:=(Array.getElem?_eq_some_iff.1 e4).1;have hkl:=qy7 hmo;have hat:(s.H.set t' (.mo ku u ety es none))[t']? =some (.mo ku u ety es none):=List.getElem?_set_self hlt;have hr1:=hr.setMap (wc ho) hσ' hh (v' :=⟨0,0,0,fun i f=>moC t' ku es none i f⟩) (es' :=es') rfl rfl rfl rfl (fun G' hmv=>te.mk' hst' (fun i e' he' =>by
     rw[e7,Array.getElem?_modify]at he';show moC t' ku es none i 0=_∧VR G' (moC t' ku es none i 1) _;by_cases hij:j' =i
     ·subst hij;rw[if_pos rfl,e4]at he';simp only[Option.map_some,Option.some.injEq]at he';subst he';refine⟨by rw[qdn e5];exact congrArg TV.val ((hkl.2 _ e p (by simpa using e4) e5).symm.trans e6),?_⟩;rw[qi5 e5,if_neg (by simp)];have:=VR.mv hmv _ _ hC;rwa[TV.sb_id]at this
     ·rw[if_neg hij]at he';obtain⟨q1,q2⟩:=hmo.at_ he';have q1:moC t' ku es (some j') i 0=_:=q1;have q2:VR _ (moC t' ku es (some j') i 1) _:=q2;cases hp:es[i]? with
      |none=>rw[qnt hp]at q1;cases q1
      |some p' =>
       rw[qdn hp]at q1;rw[qi5 hp,if_neg (by simpa using hij)]at q2;refine⟨by rw[qdn hp];exact q1,?_⟩;rw[qi5 hp,if_neg (by simp)];have:=VR.mv hmv _ _ q2;rwa[TV.sb_id]at this) fun i he' =>by
      rw[e7,Array.getElem?_modify]at he';have hno:hs[i]? =none:=by
       by_cases hij:j' =i
       ·subst hij;rw[if_pos rfl,e4]at he';cases he'
       ·rwa[if_neg hij]at he'
      have:=(hmo.no hno).1;have this:moC t' ku es (some j') i 0= .any:=this;show moC t' ku es none i 0=_∧moC t' ku es none i 1=_;cases hp:es[i]? with
      |none=>exact⟨qnt hp,qnt hp⟩
      |some p' =>rw[qdn hp]at this;cases this) (c' :=c') rfl
    obtain⟨hr2,_⟩:=ARel.setTo (tg:=t') (T:= .o t') (ob' := .mo ku u ety es none) rfl hr1 (fun T' e=>by
     cases T' with
     |o t=>simp only[TG.ob]at e;subst e;simp only[aj,wc hat,dj,Option.map_some]
     |r t i f=>simp only[TG.ob]at e;subst e;simp only[aj,cr (show TG.r t i f≠ .o t by simp),n5 hat,n5 ho]) (fun T' v' e hv' =>by
     cases T' with
     |o t=>
      simp only[TG.ob]at e;subst e;rw[wc hat]at hv';cases hv';exact⟨_,dj _ _ _,rfl,fun i f _ _ y hy=>hy,qg1 _⟩
     |r t i f=>
      simp only[TG.ob]at e;subst e;rw[n5 hat]at hv';exact⟨v',by rw[cr (show TG.r t i f≠ .o t by simp),n5 ho];exact hv',rfl,fun i f _ _ y hy=>hy,qg1 _⟩)
    have hr2:c7 U w0 σ0 K N ⟨s.S,s.H.set t' (.mo ku u ety es none)⟩ a _ σ:=hr2;refine⟨_,_,hk,fun Q KK h=> ?_⟩;unfold Oper.wp;rw[hrun _ hupd];exact h _ _ _ (hr2.put o.dst trivial)
  ·
   rename_i t2;split at hk
   ·rename_i ty2 fr2 its2 v ys hov2;split at hk
    ·rename_i h2 _;cases h2;have hb1:=(ai hk).1
     replace hk:=(ai hk).2
     simp only[Bool.and_eq_true,Bool.not_eq_true']at hb1;obtain⟨⟨⟨hb1,hb2⟩,hb3⟩,hb4⟩:=hb1;have hix:=(cf hk).1
     replace hk:=(cf hk).2
     have ho2:=hl.ob hov2;have hne:t2≠tg:=fun e=>by rw[e,Nat.beq_refl]at hb1;cases hb1
     rcases hcase with⟨e0,e7⟩|⟨j',e,p,e0,_⟩
     ·have hkr:=hr.kills (qk5 tg);have hG0:gr U (vw (ci (a8 tg) s.H)) w σ=gr U (vw s.H) w σ:=by simp only[gr,qd6]
      have ho1:(ci (a8 tg) s.H)[tg]? =some (.mo ku u ety es none):=by rw[fp,ho];rfl
      have ho12:(ci (a8 tg) s.H)[t2]? =some (.arr ty2 (.fz fr2) its2 u ys):=rz ho2;have hlen:hs.size=es.length:=by have:=(qy7 hmo).1;rwa[Array.length_toList]at this
      generalize hvc:(fun(i f:Nat)=>if i=es.length then(match f with|0=>TV.val (ku.v1 ka)|1=> .own (.o t2)|_=> .any)else moC tg ku es none i f)=vc;have hr1:=hkr.setMap (wc ho1) hσ' hh (v' :=⟨0,0,0,vc⟩) (es' :=es') rfl rfl rfl rfl (fun G' hmv=>te.mk' hst' (fun i e' he' =>by
       rw[e7,Array.getElem?_push]at he';show vc i 0=_∧VR G' (vc i 1) _;rw[←hvc];rw[hG0]at hmv;by_cases hi:i=es.length
       ·subst hi;rw[if_pos hlen.symm]at he';simp only[Option.some.injEq]at he';subst he';simp only[if_true];refine⟨trivial,?_⟩;have:=VR.mv hmv _ _ hC;rwa[TV.sb_id]at this
       ·rw[if_neg (by rw[hlen];exact hi)]at he';simp only[if_neg hi];obtain⟨q1,q2⟩:=hmo.at_ he';have q2:VR _ (moC tg ku es none i 1) _:=q2;refine⟨q1,?_⟩;have:=VR.mv hmv _ _ q2;rwa[TV.sb_id]at this) fun i he' =>by
       rw[e7]at he';have hi:hs.size<i:=by
        have:=Array.getElem?_eq_none_iff.1 he';simp at this;omega
       show vc i 0=_∧vc i 1=_;rw[←hvc];simp only[if_neg (show¬i=es.length by omega)];have hp:es[i]? =none:=List.getElem?_eq_none (by omega);exact⟨qnt hp,qnt hp⟩) (c' :=c') rfl
      obtain⟨σ',he,_⟩:=ARel.eatM (key:=ka) hr1 ho1 ho12 hne hb3 (aw hb4) (hK t2 hb2) rfl rfl rfl (fun i f=>by
       show _=(vc i f).sb _;rw[←hvc];by_cases hi:i=es.length
       ·subst hi;simp only[if_true];have hp:(es++[(ka,ys)])[es.length]? =some (ka,ys):=by simp
        match f with
        |0=>rw[qdn hp];rfl
        |1=>rw[qi5 hp,if_neg (by simp)];simp[TV.sb,eo]
        |f+2=>simp[moC,TV.sb]
       ·simp only[if_neg hi];have hp:(es++[(ka,ys)])[i]? =es[i]? :=by
         rcases Nat.lt_or_ge i es.length with h' |h'
         ·exact List.getElem?_append_left h'
         ·rw[List.getElem?_eq_none h',List.getElem?_eq_none (by simp;omega)]
        have e8:moC tg ku (es++[(ka,ys)]) none i f=moC tg ku es none i f:=by simp only[moC,hp]
        rw[e8];unfold moC;split
        ·split
         ·rfl
         ·simp[TV.sb,eo,hi]
         ·rfl
        ·rfl)
      have e1:(fun t=>(bq (sbS (a8 tg) s.S) t).sb (eo t2 tg es.length 0))=bq (sbS (ow t2 tg es.length 0) s.S):=by
       funext t;rw[ez,ez,TV.sb_sb (a8 tg) (eo t2 tg es.length 0) (ow t2 tg es.length 0) (qx1 t2 tg es.length 0)]
      have e2:ci (eo t2 tg es.length 0) (ci (a8 tg) s.H)=ci (ow t2 tg es.length 0) s.H:=qdr (a8 tg) (eo t2 tg es.length 0) (ow t2 tg es.length 0) (qx1 t2 tg es.length 0) s.H;rw[e2]at he;have he' :ARel U w0 σ0 K N (fun t=>(bq (sbS (a8 tg) s.S) t).sb (eo t2 tg es.length 0)) (vw (((ci (ow t2 tg es.length 0) s.H).set tg (.mo ku u ety (es++[(ka,ys)]) none)).set t2 .gone)) a _ σ' :=he;rw[e1]at he';have hr2:c7 U w0 σ0 K N ⟨sbS (ow t2 tg es.length 0) s.S,((ci (ow t2 tg es.length 0) s.H).set tg (.mo ku u ety (es++[(ka,ys)]) none)).set t2 .gone⟩ a _ σ' :=he';refine⟨_,_,hk,fun Q KK h=> ?_⟩;unfold Oper.wp;rw[hrun _ hupd];exact h _ _ _ (hr2.put o.dst trivial)
     ·rw[e0]at hix;cases hix
    ·cases hk
   ·cases hk
  ·cases hk
 ·cases hk
theorem jnr(hF:c9 P tt){o:Oper}{s:TS}{a:Act}{w:World}{σ:Pl}(hr:c7 U w0 σ0 K N s a w σ){Hv:List TOb}(hl:HLe F Hv s.H){X:Ctx Rf}(hX:X.tt=tt)(hK:∀t,br X.kp t=false→K t=false){k:List St→TV→Option R}{r:R}{t:TypeId}{m key x:Operand}{A B C:TV}(hrun:∀w',(Instr.mapUpdate t (a.eval m) (a.eval key) (a.eval x)).run P w= .ok () w' →(execOp a.eval o).run P w= .ok .skip w')
  (hA:VR (gr U (vw s.H) w σ) A (a.eval m)) (hB:VR (gr U (vw s.H) w σ) B (a.eval key)) (hC:VR (gr U (vw s.H) w σ) C (a.eval x)) (hk:q85 X t A B C Hv k=some r):ot P U w0 σ0 K N o s a w k r:=by
 unfold q85 at hk;split at hk
 ·rename_i kt et a1 b1 z1 ht;split at hk
  ·rename_i ki tg hki;split at hk
   ·rename_i ku vu es hov;split at hk
    ·rename_i ka xb hka hxb;have hb:=(ai hk).1
     replace hk:=(ai hk).2
     rw[hX]at ht hki;obtain⟨hu,hone⟩:=qtp hF hki hb;have ho:=hl.obm hov;obtain⟨g,oo,hs,c,hm,hσ,hh,hent,hst⟩:=qy0 (hl.sees hr.hr) hov hA;have hkey:=qvy hka hB;have hval:=qvy hxb hC;have hσ' :σ (.o tg)=some (g,oo):=hσ;have hh' :w.heap[g]? =some (.map hs c):=hh;obtain⟨es',c',hupd,hent',hst'⟩:∃es' c',(Instr.mapUpdate t (a.eval m) (a.eval key) (a.eval x)).run P w= .ok () {w with heap:=w.heap.setIfInBounds g (.map es' c')}∧qpx ku vu es'.toList (qeb ku ka xb es)∧Stp es' c' :=by
      rw[hm,hkey,hval];have hck:=MapKept.run_checkKey (w:=w) hu (qog hone ka) false 9999;rcases qx2 hone ka hs.toList es 0 hent with⟨_,a2,a3,_⟩|⟨j,y',e,_,a2,a4,a5,a3,_⟩
      ·have hfk:=MapKept.run_findKey (w:=w) hu a2;refine⟨hs.push {key:=ku.v1 ka,val:=vu.v1 xb,born:=c},c+1,by simp[Instr.mapUpdate,run_underlying (kz hF ht),MapKept.run_getObj_map hh',hck,hfk,MapKept.run_setObj_map _ hh'],?_,hst.push _ _⟩;rw[a3];obtain⟨h1,h2⟩:=hent.at_;refine qpx.of (by simp at h1⊢;omega) fun i e p he hp=> ?_
       rcases Nat.lt_or_ge i hs.size with hi|hi
       ·simp only[Array.toList_push]at he;rw[List.getElem?_append_left (by simpa using hi)]at he;rw[List.getElem?_append_left (by rw[←h1];simpa using hi)]at hp;exact h2 i e p he hp
       ·simp only[Array.toList_push]at he;rw[List.getElem?_append_right (by simpa using hi)]at he;rw[List.getElem?_append_right (by rw[←h1];simpa using hi)]at hp;rw[h1]at he;cases hz:i-es.length with
        |zero=>
         rw[hz]at he hp;simp at he hp;subst he hp;exact⟨rfl,rfl⟩
        |succ n=>rw[hz]at he;simp at he
      ·have hfk:=MapKept.run_findKey (w:=w) hu a2;rw[Nat.zero_add]at hfk;have a4' :hs[j]? =some e:=by simpa using a4
       have hks:(Instr.keyThatStays (((hs[j]?).map (·.key)).getD (ku.v1 ka)) (ku.v1 ka)).run P w= .ok (ku.v1 ka) w:=by
        rw[a4'];simp only[Option.map_some,Option.getD_some,a5];exact MapKept.run_keyThatStays (qog hone ka)
       refine⟨hs.modify j fun e=>{e with key:=ku.v1 ka,val:=vu.v1 xb},c,by simp[Instr.mapUpdate,run_underlying (kz hF ht),MapKept.run_getObj_map hh',hck,hfk,hks,MapKept.run_setObj_map _ hh'],?_,hst.modify _ _ _⟩;rw[a3];obtain⟨h1,h2⟩:=hent.at_;refine qpx.of (by simp at h1⊢;omega) fun i e' p he hp=> ?_
       rw[Array.getElem?_toList,Array.getElem?_modify]at he;rw[List.getElem?_set]at hp;by_cases hi:j=i
       ·subst hi;rw[if_pos rfl,a4']at he;rw[if_pos rfl]at hp;split at hp
        ·simp at he hp;subst he hp;exact⟨rfl,rfl⟩
        ·cases hp
       ·rw[if_neg hi]at he hp;exact h2 i e' p (by simpa using he) hp
     have hr2:c7 U w0 σ0 K N ⟨s.S,s.H.set tg (.mp ku vu (qeb ku ka xb es))⟩ a _ σ:=jdu hr ho hσ' hh' (c' :=c') hent' hst';refine⟨_,_,hk,fun Q KK h=> ?_⟩;unfold Oper.wp;rw[hrun _ hupd];exact h _ _ _ (hr2.put o.dst trivial)
    ·cases hk
   ·rename_i ku u ety es h hov;rw[hX]at ht hki;exact jtv hF hr hl hX hK ht hki hov hrun hA hB hC hk
   ·cases hk
  ·cases hk
 ·cases hk
theorem jwo(hF:c9 P tt){o:Oper}{s:TS}{a:Act}{w:World}{σ:Pl}(hr:c7 U w0 σ0 K N s a w σ){Hv:List TOb}(hl:HLe F Hv s.H){X:Ctx Rf}(hX:X.tt=tt){k:List St→TV→Option R}{r:R}{t t2:TypeId}{m key:Operand}{A B:TV}(hop:o.op= .call ⟨.builtin .delete,⟨[m,key]⟩,⟨[t,t2]⟩⟩)
  (hA:VR (gr U (vw s.H) w σ) A (a.eval m)) (hB:VR (gr U (vw s.H) w σ) B (a.eval key)) (hk:jdh X t A B Hv k=some r):ot P U w0 σ0 K N o s a w k r:=by
 unfold jdh at hk;split at hk
 ·rename_i kt et a1 b1 z1 ht;split at hk
  ·rename_i ki tg hki;split at hk
   ·rename_i ku vu es hov;split at hk
    ·rename_i ka hka;have hb:=(ai hk).1
     replace hk:=(ai hk).2
     rw[hX]at ht hki;obtain⟨hu,hone⟩:=qtp hF hki hb;have ho:=hl.obm hov;obtain⟨g,oo,hs,c,hm,hσ,hh,hent,hst⟩:=qy0 (hl.sees hr.hr) hov hA;have hkey:=qvy hka hB;have hσ' :σ (.o tg)=some (g,oo):=hσ;have hh' :w.heap[g]? =some (.map hs c):=hh;obtain⟨es',c',hupd,hent',hst'⟩:∃es' c',(Builtin.delete_ #[t,t2] o.type #[a.eval m,a.eval key]).run P w= .ok (.tuple #[]) {w with heap:=w.heap.setIfInBounds g (.map es' c')}∧qpx ku vu es'.toList (jf9 ku ka es)∧Stp es' c' :=by
      rw[hm,hkey];have hck:=MapKept.run_checkKey (w:=w) hu (qog hone ka) hs.isEmpty 9999;rcases qx2 hone ka hs.toList es 0 hent with⟨_,a2,_,a3⟩|⟨j,y',e,_,a2,a4,a5,_,a3⟩
      ·have hfk:=MapKept.run_findKey (w:=w) hu a2;exact⟨hs,c,by simp[Builtin.delete_,run_underlying (kz hF ht),MapKept.run_getObj_map hh',hck,hfk,MapKept.run_setObj_map _ hh'],by rw[a3];exact hent,hst⟩
      ·have hfk:=MapKept.run_findKey (w:=w) hu a2;rw[Nat.zero_add]at hfk;refine⟨hs.eraseIdxIfInBounds j,c,by simp[Builtin.delete_,run_underlying (kz hF ht),MapKept.run_getObj_map hh',hck,hfk,MapKept.run_setObj_map _ hh'],?_,hst.sub (by rw[show(hs.eraseIdxIfInBounds j).toList=hs.toList.eraseIdx j by simp];exact List.eraseIdx_sublist _ _)⟩;rw[a3];obtain⟨h1,h2⟩:=hent.at_;have hj:j<hs.size:=by
        rcases Nat.lt_or_ge j hs.size with h' |h'
        ·exact h'
        ·rw[List.getElem?_eq_none (by simpa using h')]at a4;cases a4
       rw[Array.length_toList]at h1;have he:(hs.eraseIdxIfInBounds j).toList=hs.toList.eraseIdx j:=by simp
       rw[he];refine qpx.of (by simp[List.length_eraseIdx,h1]) fun i e' p he' hp=> ?_
       rw[List.getElem?_eraseIdx]at he' hp;split at he'
       ·rename_i hlt;rw[if_pos hlt]at hp;exact h2 i e' p he' hp
       ·rename_i hlt;rw[if_neg hlt]at hp;exact h2 (i+1) e' p he' hp
     have hr2:c7 U w0 σ0 K N ⟨s.S,s.H.set tg (.mp ku vu (jf9 ku ka es))⟩ a _ σ:=jdu hr ho hσ' hh' (c' :=c') hent' hst';have hrun:(execOp a.eval o).run P w= .ok (.value (.tuple #[])) {w with heap:=w.heap.setIfInBounds g (.map es' c')}:=by
      unfold execOp;simp only[hop,resolve,invoke,builtin,Sem.run_bind,Sem.run_pure,Result.andThen_ok,List.map_toArray,List.map_cons,List.map_nil,hupd]
     exact ot.val hk hrun hr2 trivial
    ·cases hk
   ·cases hk
  ·cases hk
 ·cases hk
def Vw.putN(v:Vw)(st:Nat)(L:List TV):Vw:={v with cs:=fun i f=>if st≤i*v.sz+f∧i*v.sz+f<st+L.length then L.getD (i*v.sz+f-st) .any else v.cs i f}
theorem ARel.writeN{S:Nat→TV}{V:TG→Option Vw}{a:Act}{w:World}{σ:Pl}(h:ARel U w0 σ0 K N S V a w σ){T:TG}{v:Vw}(hT:V T=some v){g o:Nat}(hσ:σ T=some (g,o)){st:Nat}{new:List Value}{L:List TV}(hn:0<v.n)(hfit:st+L.length≤v.n*v.sz)
  (hnew:jp (gr U V w σ) new L) {cur:Array Value} (hcur:w.heap[g]? =some (.cells cur v.ty (0,0))):
  ARel U w0 σ0 K N S (upd V T (v.putN st L)) a (w.setRow g (cur.toList.take (o+st)++new++cur.toList.drop (o+st+new.length)).toArray) σ:=by
 have hob:=h.hr.obj T v hT;rw[hσ]at hob;obtain⟨cur',c,hcur',hcs,hle,hcells⟩:=hob.cells (.inr hn);have hcur' :w.heap[g]? =some (.cells cur' v.ty (0,0)):=hcur';rw[hcur]at hcur';simp only[Option.some.injEq,Obj.cells.injEq]at hcur';obtain⟨rfl,_⟩:=hcur';have hlen:=hnew.1.len;have hlt:o+st+new.length≤cur.size:=by
  have:v.n*v.sz≤c*v.sz:=Nat.mul_le_mul_right _ hle;rw[hcs,hlen];omega
 generalize hw' :w.setRow g (cur.toList.take (o+st)++new++cur.toList.drop (o+st+new.length)).toArray=w';have hrow:w'.heap[g]? =some (.cells (cur.toList.take (o+st)++new++cur.toList.drop (o+st+new.length)).toArray v.ty (0,0)):=by rw[←hw'];exact setRow_heap w g cur _ v.ty _ hcur
 have hother:∀k,k≠g→w'.heap[k]? =w.heap[k]? :=fun k hk=>by rw[←hw'];exact setRow_other w g k _ hk
 have hsize:w'.heap.size=w.heap.size:=by rw[←hw'];simp
 have hcsz:(cur.toList.take (o+st)++new++cur.toList.drop (o+st+new.length)).toArray.size=cur.size:=by simp;omega
 have key:∀j,(cur.toList.take (o+st)++new++cur.toList.drop (o+st+new.length)).toArray[j]? =
   if o+st≤j∧j<o+st+new.length then new[j-(o+st)]? else cur[j]? :=by
  intro j;rw[List.getElem?_toArray,List.append_assoc];rcases Nat.lt_or_ge j (o+st)with h1|h1
  ·rw[List.getElem?_append_left (by simp;omega),List.getElem?_take,if_pos h1,Array.getElem?_toList,if_neg (by omega)]
  ·rw[List.getElem?_append_right (by simp;omega)];have hl:(cur.toList.take (o+st)).length=o+st:=by simp;omega
   rw[hl];rcases Nat.lt_or_ge j (o+st+new.length)with h2|h2
   ·rw[List.getElem?_append_left (by omega),if_pos ⟨h1,h2⟩]
   ·rw[List.getElem?_append_right (by omega),if_neg (by omega),List.getElem?_drop,Array.getElem?_toList];congr 1;omega
 have hI:aj (upd V T (v.putN st L))=aj V:=q8m hT rfl rfl;have hown:cn σ g:=⟨T,o,hσ⟩;have hm:Mv (fun _=> .id) (gr U V w σ) (gr U (upd V T (v.putN st L)) w' σ):=by
  refine⟨Nat.le_of_eq hsize.symm,fun _ _ hx=>hx,fun _ _ _ hu=>hu,fun b _ hx=>hother b (fun e=>hx (e▸hown)),fun T1 T2 q ht hq=> ?_,fun T1 fr u xs q e=>by cases e⟩;rcases ht with⟨_,rfl⟩|ht
  ·refine⟨by show aj _ T2=_;rw[hI];exact hq,fun g1 o1 hg1=>⟨hg1,fun cur1 e1 hc1=> ?_⟩⟩;by_cases e:g1=g
   ·subst e;have hc1' :w.heap[g1]? =some (.cells cur1 e1 (0,0)):=hc1;rw[hcur]at hc1';simp only[Option.some.injEq,Obj.cells.injEq]at hc1';obtain⟨rfl,rfl,_⟩:=hc1';exact⟨_,hrow,hcsz⟩
   ·exact⟨cur1,(hother g1 e).trans hc1,rfl⟩
  ·cases ht
 refine h.go hm (fun t=>(TV.sb_id _).symm) ⟨h.hr.inj,fun T1 p hp=> ?_,fun T1 v1 hv1=> ?_,h.hr.own,?_,?_,?_,by rw[hsize];exact h.hr.size,fun b hb hnb=> ?_,h.hr.keep,fun t g1 o1 ht hg1 cur1 e1 hc1=> ?_,h.hr.ulow,h.hr.tb0⟩
 ·by_cases e:T1=T
  ·exact⟨v.putN st L,by simp[upd,e]⟩
  ·obtain⟨v1,hv1⟩:=h.hr.dom T1 p hp;exact⟨v1,by simp[upd,e,hv1]⟩
 ·by_cases e:T1=T
  ·subst e;simp only[upd,if_true,Option.some.injEq]at hv1;subst hv1;rw[hσ];refine .inl ⟨.inr hn,_,c,hrow,by rw[hcsz,hcs];rfl,hle,fun i' f' hi' hf' => ?_⟩;have hf' :f' <v.sz:=hf'
   suffices hsuf:∀G',G' =gr U (upd V T1 (v.putN st L)) w' σ→∃u,(cur.toList.take (o+st)++new++cur.toList.drop (o+st+new.length)).toArray[o+(i' *v.sz+f')]? =some u∧u.oneCell' =true∧
     VR G' (if st≤i' *v.sz+f' ∧i' *v.sz+f' <st+L.length then L.getD (i' *v.sz+f' -st) .any else v.cs i' f') u from hsuf _ rfl
   intro G' hG';rw[←hG']at hm;rw[key];by_cases hin:st≤i' *v.sz+f' ∧i' *v.sz+f' <st+L.length
   ·rw[if_pos (by omega),if_pos hin];obtain⟨u,hu,hVu⟩:=hnew.1.getD (i' *v.sz+f' -st) (by omega);refine⟨u,?_,hnew.2 u (List.mem_of_getElem? hu),?_⟩
    ·rw[←hu];congr 1;omega
    ·have:=VR.mv hm _ u hVu;rwa[TV.sb_id]at this
   ·rw[if_neg (by omega),if_neg hin];obtain⟨u,hu,h1,hVu⟩:=hcells i' f' hi' hf';refine⟨u,hu,h1,?_⟩;have:=VR.mv hm _ u hVu;rwa[TV.sb_id]at this
  ·have hv1' :V T1=some v1:=by simpa[upd,e]using hv1
   refine(h.hr.obj T1 v1 hv1').mv hm (fun g1 o1 hp=>hother g1 (fun eg=> ?_)) rfl rfl rfl (fun i' f' _ _ u hu=>by have:=VR.mv hm _ u hu;rwa[TV.sb_id]at this) (fun _ _=>HZ.of hm fun _ _=>(TV.sb_id _).symm);subst eg;exact e (h.hr.inj T1 T g1 o1 o hp hσ)
 ·rw[←hw'];exact h.hr.os
 ·rw[←hw'];exact h.hr.tape
 ·rw[←hw'];exact h.hr.output
 ·refine(hother b (fun e=> ?_)).trans (h.hr.blk b hb hnb);subst e;rcases(h.hr.own T b o hσ).2 with hge|⟨T',o',h'⟩
  ·omega
  ·exact hnb T' o' h'
 ·obtain⟨cur2,h1,h2⟩:=h.hr.ksz t g1 o1 ht hg1 cur1 e1 hc1;by_cases e:g1=g
  ·subst e;rw[hcur]at h1;simp only[Option.some.injEq,Obj.cells.injEq]at h1;obtain⟨rfl,rfl,_⟩:=h1;exact⟨_,hrow,hcsz.trans h2⟩
  ·exact⟨cur2,(hother g1 e).trans h1,h2⟩
theorem jqq(w:World)(dT sT ty elem:TypeId)(g o dLen dCap:Nat)(a:Addr)(sLen sCap:Nat)(cur:Array Value)(t:TypeId)(cs:List Value){inf:TypeInfo}
  (hu:P.underlying dT=some (.slice elem)) (hi:P.info? elem=some inf)
  (hg:w.heap[g]? =some (.cells cur t (0,0))) (hn:cs.length=Nat.min sLen dLen*inf.size)
  (hsrc:∀j v,cs[j]? =some v→w.cell? (a.add j)=some v) (hfit:o+cs.length≤cur.size) (h1:∀v∈cs,v.oneCell' =true):
  (Builtin.copy_ #[dT,sT] ty #[.slice (some ⟨g,o,none⟩) dLen dCap, .slice (some a) sLen sCap]).run P w=
   .ok (goInt (Nat.min sLen dLen)) (w.setRow g (cur.toList.take o++cs++cur.toList.drop (o+cs.length)).toArray):=by
 have hl:=run_loadCells_list (P:=P) w a cs hsrc;have hst:=run_storeCells_at P g o t cs 0 cur w hg (by simpa using hfit) h1;simp[Builtin.copy_,run_underlying hu,Builtin.lenOf,Builtin.firstCells,sizeOf,typeInfo,hi,←hn,hl,hst]
theorem jqp(w:World)(dT sT ty elem:TypeId)(b a:Option Addr)(dLen dCap sLen sCap:Nat){inf:TypeInfo}(hu:P.underlying dT=some (.slice elem))(hi:P.info? elem=some inf)(h0:Nat.min sLen dLen=0):
  (Builtin.copy_ #[dT,sT] ty #[.slice b dLen dCap, .slice a sLen sCap]).run P w= .ok (goInt (Nat.min sLen dLen)) w:=by
 cases a<;>cases b<;>simp[Builtin.copy_,run_underlying hu,Builtin.lenOf,Builtin.firstCells,sizeOf,typeInfo,hi,h0,loadCells,loadCellsFrom,storeCells]
theorem jsa{α:Type}(xs:List α){off n:Nat}(ys:List α)(hle:off+n≤xs.length)(i:Nat)(z:α):(qbv xs off n ys).getD i z=if off≤i∧i<off+min ys.length n then ys.getD (i-off) z else xs.getD i z:=by
 unfold qbv;simp only[List.getD_eq_getElem?_getD];rcases Nat.lt_or_ge i off with h1|h1
 ·rw[List.getElem?_append_left (by simp;omega),List.getElem?_take,if_pos h1,if_neg (by omega)]
 ·rw[List.getElem?_append_right (by simp;omega)];have hl:(xs.take off).length=off:=by simp;omega
  rw[hl];rcases Nat.lt_or_ge i (off+min ys.length n)with h2|h2
  ·rw[List.getElem?_append_left (by simp;omega),if_pos ⟨h1,h2⟩,List.getElem?_take,if_pos (by omega)]
  ·rw[List.getElem?_append_right (by simp;omega),if_neg (by omega),List.getElem?_drop];congr 2;simp only[List.length_take];omega
theorem jpj{α:Type}(xs:List α){off n:Nat}(ys:List α)(hle:off+n≤xs.length):(qbv xs off n ys).length=xs.length:=by
 unfold qbv;simp;omega
theorem jcz{s:TS}{a:Act}{w:World}{σ:Pl}(h:c7 U w0 σ0 K N s a w σ){tg:Nat}{ty:TypeId}{fr fr' :Bool}{its:List TypeId}{u:Ty}{xs ys:List u.den}(ho:s.H[tg]? =some (.arr ty (.fz fr) its u xs)){off n:Nat}{vd:Value}(hd:SlR w σ (.o tg) u.sz off n vd)(hle:off+n≤xs.length)(hpos:0<u.sz)
  {M:Sem Value} {out:Value} {news:List Value} (hl:news.length=ys.length*u.sz) (h1:∀v∈news,v.oneCell' =true) (hsrc:∀i f,i<ys.length→f<u.sz→∃y,news[i*u.sz+f]? =some y∧VR (gr U (vw s.H) w σ) ((u.cells fr' (ys.getD i u.dft)).getD f .any) y)
  (hr0:min ys.length n=0→M.run P w= .ok out w)
  (hr1:∀g o cc cur e,0<min ys.length n→vd= .slice (some ⟨g,o+off*u.sz,none⟩) n cc→w.heap[g]? =some (.cells cur e (0,0))→o+off*u.sz+(news.take (min ys.length n*u.sz)).length≤cur.size→
   M.run P w= .ok out (w.setRow g (cur.toList.take (o+off*u.sz)++news.take (min ys.length n*u.sz)++cur.toList.drop (o+off*u.sz+(news.take (min ys.length n*u.sz)).length)).toArray)):
  ∃w',M.run P w= .ok out w' ∧c7 U w0 σ0 K N ⟨s.S,s.H.set tg (.arr ty (.fz (fr&&fr')) its u (qbv xs off n ys))⟩ a w' σ:=by
 have hlt:tg<s.H.length:=(List.getElem?_eq_some_iff.1 ho).1;have hat:(s.H.set tg (.arr ty (.fz (fr&&fr')) its u (qbv xs off n ys)))[tg]? =some (.arr ty (.fz (fr&&fr')) its u (qbv xs off n ys)):=List.getElem?_set_self hlt;have hlen:=jpj xs ys hle;have hmin:Nat.min ys.length n=min ys.length n:=rfl;have tell:∀(w' :World) (v1:Vw),v1.ty=ty→v1.sz=u.sz→v1.n=xs.length→ARel U w0 σ0 K N (bq s.S) (upd (vw s.H) (.o tg) v1) a w' σ→
   (∀i f,i<xs.length→f<u.sz→∀y,VR (gr U (vw s.H) w' σ) (v1.cs i f) y→(off≤i∧i<off+min ys.length n∧VR (gr U (vw s.H) w' σ) ((u.cells fr' (ys.getD (i-off) u.dft)).getD f .any) y)∨(¬(off≤i∧i<off+min ys.length n)∧VR (gr U (vw s.H) w' σ) ((u.cells fr (xs.getD i u.dft)).getD f .any) y))→
   c7 U w0 σ0 K N ⟨s.S,s.H.set tg (.arr ty (.fz (fr&&fr')) its u (qbv xs off n ys))⟩ a w' σ:=by
  intro w' v1 e1 e2 e3 hr hc;refine ARel.setTell (T:= .o tg) (ob' := .arr ty (.fz (fr&&fr')) its u (qbv xs off n ys)) (ax ho) hr e3 e2 (fun T' e=> ?_) (fun T' v' e hv' => ?_)
  ·cases T' with
   |o t=>simp only[TG.ob]at e;subst e;simp only[TG.ob,aj,ax hat,ax ho,Option.map_some,hlen]
   |r t i f=>simp only[TG.ob]at e;subst e;simp only[aj,TG.ob,jj hat,jj ho,Md.isOwn];simp
  ·cases T' with
   |o t=>
    simp only[TG.ob]at e;subst e;simp only[TG.ob,ax hat,Option.some.injEq]at hv';subst hv';refine⟨_,dj _ _ _,e1.symm,fun i f hi' hf' y hy=> ?_,fun e _=>absurd (e2.symm.trans e) (by omega)⟩;rw[e3]at hi';rw[e2]at hf';show VR _ (bx t (.fz (fr&&fr')) u (qbv xs off n ys) i f) y;rw[kf,jsa xs ys hle,←Ty.C_iff _ _ _ _ _ _ hf'];rcases hc i f hi' hf' y hy with⟨h1,h2,hV⟩|⟨h1,hV⟩
    ·rw[if_pos ⟨h1,h2⟩];exact Ty.C_fr (G:=gr U (vw s.H) w' σ) (fun e=>by simp at e;exact e.2) ((Ty.C_iff (gr U (vw s.H) w' σ) fr' u _ f y hf').2 hV)
    ·rw[if_neg h1];exact Ty.C_fr (G:=gr U (vw s.H) w' σ) (fun e=>by simp at e;exact e.1) ((Ty.C_iff (gr U (vw s.H) w' σ) fr u _ f y hf').2 hV)
   |r t i f=>simp only[TG.ob]at e;subst e;simp only[TG.ob,jj hat,Md.isOwn]at hv';simp at hv'
 rcases Nat.eq_zero_or_pos (min ys.length n)with hm0|hm0
 ·refine⟨w,hr0 hm0,tell w ⟨ty,u.sz,xs.length,fun i f=>bx tg (.fz fr) u xs i f⟩ rfl rfl rfl ?_ (fun i f _ _ y hy=> .inr ⟨by omega,by simpa only[kf]using hy⟩)⟩;have:upd (vw s.H) (.o tg) ⟨ty,u.sz,xs.length,fun i f=>bx tg (.fz fr) u xs i f⟩=vw s.H:=by
   funext T;by_cases e:T= .o tg
   ·subst e;rw[dj,ax ho]
   ·rw[cr e]
  rw[this];exact h
 ·rcases hd with⟨b,rfl,rfl⟩|⟨g,o,cc,cur,e,hσ,rfl,hn,hcm,hh,hcs⟩
  ·simp at hm0
  ·have hob:=h.hr.obj _ _ (ax ho);rw[hσ]at hob;obtain⟨cur2,c2,hh2,hs2,hle2,hcell⟩:=hob.cells (.inl hpos);have hh2:w.heap[g]? =some (.cells cur2 ty (0,0)):=hh2;rw[hh]at hh2;simp only[Option.some.injEq,Obj.cells.injEq]at hh2;obtain⟨rfl,rfl,_⟩:=hh2;have hmul:min ys.length n*u.sz≤ys.length*u.sz:=Nat.mul_le_mul_right _ (by omega);have hcl:(news.take (min ys.length n*u.sz)).length=min ys.length n*u.sz:=by rw[List.length_take,hl];omega
   have hmul2:min ys.length n*u.sz≤cc*u.sz:=Nat.mul_le_mul_right _ (by omega);have hrun:=hr1 g o cc cur e hm0 rfl hh (by rw[hcl,hcs,Nat.add_mul];omega);refine⟨_,hrun,?_⟩;let L:List TV:=(List.range (min ys.length n*u.sz)).map fun j=>(u.cells fr' (ys.getD (j/u.sz) u.dft)).getD (j % u.sz) .any
   have hLl:L.length=min ys.length n*u.sz:=by simp[L]
   have hLat:∀j,j<min ys.length n*u.sz→L.getD j .any=(u.cells fr' (ys.getD (j/u.sz) u.dft)).getD (j % u.sz) .any:=by
    intro j hj;simp only[L,List.getD_eq_getElem?_getD,List.getElem?_map,List.getElem?_range hj,Option.map_some,Option.getD_some]
   have hC:jp (gr U (vw s.H) w σ) (news.take (min ys.length n*u.sz)) L:=by
    refine⟨fj.of (by rw[hcl,hLl]) fun j A y hA hy=> ?_,fun v hv=>h1 v (List.mem_of_mem_take hv)⟩;have hj:j<min ys.length n*u.sz:=by
     have:=(List.getElem?_eq_some_iff.1 hA).1;omega
    have hA2:A=L.getD j .any:=by rw[List.getD_eq_getElem?_getD,hA];rfl
    rw[hA2,hLat j hj];obtain⟨y',hy',hV⟩:=hsrc (j/u.sz) (j % u.sz) (by have:=(Nat.div_lt_iff_lt_mul hpos).2 hj;omega) (Nat.mod_lt _ hpos);rw[Nat.div_add_mod']at hy';rw[List.getElem?_take,if_pos hj,hy']at hy;cases hy;exact hV
   have hbnd:off*u.sz+min ys.length n*u.sz≤xs.length*u.sz:=by
    rw[←Nat.add_mul];exact Nat.mul_le_mul_right _ (by omega)
   have hr:=h.writeN (ax ho) hσ (st:=off*u.sz) (L:=L) (show 0<xs.length by omega) (by rw[hLl];exact hbnd) hC hh;refine tell _ _ rfl rfl rfl hr fun i f hi' hf' y hy=> ?_
   simp only[Vw.putN,hLl]at hy;by_cases hin:off≤i∧i<off+min ys.length n
   ·have h2:off*u.sz≤i*u.sz:=Nat.mul_le_mul_right _ hin.1;have h3:(i-off+1)*u.sz≤min ys.length n*u.sz:=Nat.mul_le_mul_right _ (by omega);have h4:(i-off)*u.sz=i*u.sz-off*u.sz:=Nat.sub_mul ..;rw[Nat.add_mul]at h3;have h5:i*u.sz+f-off*u.sz=(i-off)*u.sz+f:=by omega
    rw[if_pos (by omega),hLat _ (by omega),h5,Nat.mul_comm (i-off),Nat.mul_add_div hpos,Nat.div_eq_of_lt hf',Nat.mul_add_mod,Nat.mod_eq_of_lt hf',Nat.add_zero]at hy;exact .inl ⟨hin.1,hin.2,hy⟩
   ·refine .inr ⟨hin,?_⟩;rw[if_neg,kf]at hy
    ·exact hy
    ·intro hcon;apply hin;have a1:off≤i:=by
      rcases Nat.lt_or_ge i off with h' |h'
      ·have:(i+1)*u.sz≤off*u.sz:=Nat.mul_le_mul_right _ h';rw[Nat.add_mul]at this;omega
      ·exact h'
     refine⟨a1,?_⟩;rcases Nat.lt_or_ge i (off+min ys.length n)with h' |h'
     ·exact h'
     ·have:(off+min ys.length n)*u.sz≤i*u.sz:=Nat.mul_le_mul_right _ h';rw[Nat.add_mul]at this;omega
theorem jpl(hF:c9 P tt){s:TS}{a:Act}{w:World}{σ:Pl}(h:c7 U w0 σ0 K N s a w σ){tg:Nat}{ty:TypeId}{fr fr' :Bool}{its:List TypeId}{u:Ty}{xs ys:List u.den}(ho:s.H[tg]? =some (.arr ty (.fz fr) its u xs)){off n:Nat}{vd sv:Value}(hd:SlR w σ (.o tg) u.sz off n vd)(hle:off+n≤xs.length)
  (hs:tf (gr U (vw s.H) w σ) u.sz ys.length (fun i f=>(u.cells fr' (ys.getD i u.dft)).getD f .any) sv) (hpos:0<u.sz) {t t' ty2 el:TypeId} {inf:TypeInfo} (hut:P.underlying t=some (.slice el)) (hi:P.info? el=some inf) (hsz:inf.size=u.sz):
  ∃w',(Builtin.copy_ #[t,t'] ty2 #[vd,sv]).run P w= .ok (goInt (Nat.min ys.length n)) w' ∧c7 U w0 σ0 K N ⟨s.S,s.H.set tg (.arr ty (.fz (fr&&fr')) its u (qbv xs off n ys))⟩ a w' σ:=by
 obtain⟨sa,c,news,rfl,hl,hsa,h1,hsrc⟩:=hs.news hpos;refine jcz h ho hd hle hpos hl h1 hsrc (fun hm0=> ?_) (fun g o cc cur e hm0 e1 hh hfit=> ?_)
 ·obtain⟨b,dc,rfl⟩:∃b dc,vd= .slice b n dc:=by
   rcases hd with⟨b,rfl,rfl⟩|⟨g,o,cc,cur,e,_,rfl,_⟩<;>exact⟨_,_,rfl⟩
  exact jqp w t t' ty2 el b sa n dc ys.length c hut hi hm0
 ·subst e1;obtain⟨ad,rfl,hnews⟩:=hsa (by omega);have hcl:(news.take (min ys.length n*u.sz)).length=min ys.length n*u.sz:=by
   have:min ys.length n*u.sz≤ys.length*u.sz:=Nat.mul_le_mul_right _ (by omega);rw[List.length_take,hl];omega
  exact jqq (P:=P) w t t' ty2 el g (o+off*u.sz) n cc ad ys.length c cur e (news.take (min ys.length n*u.sz)) hut hi hh (by rw[hcl,hsz])
   (fun j v hj=>hnews j v (by rw[List.getElem?_take]at hj;split at hj;exact hj;cases hj)) hfit (fun v hv=>h1 v (List.mem_of_mem_take hv))
theorem jvv(hF:c9 P tt){o:Oper}{s:TS}{a:Act}{w:World}{σ:Pl}(hr:c7 U w0 σ0 K N s a w σ){Hv:List TOb}(hl:HLe F Hv s.H){X:Ctx Rf}(hK:∀t,br X.kp t=false→K t=false){k:List St→TV→Option R}{r:R}{t t' el:TypeId}{b1 b2:Nat}{z1:List Value}{d x:Operand}{u:Ty}{ei:TI}{A B:TV}
  (hop:o.op= .call ⟨.builtin .copy,⟨[d,x]⟩,⟨[t,t']⟩⟩) (ht:tt t=some ⟨.slice el,b1,b2,z1⟩) (hel:elT tt el=some (u,ei)) (hd:VR (gr U (vw s.H) w σ) A (a.eval d)) (hx:VR (gr U (vw s.H) w σ) B (a.eval x)) (hk:jcw X u A B Hv k=some r):ot P U w0 σ0 K N o s a w k r:=by
 obtain⟨hti,husz,hpos,_,_,_⟩:=q04 hel;obtain⟨inf,_,_,hi,_,_,hi4,_⟩:=(hF el ei hti).1;unfold jcw at hk;split at hk
 ·rename_i δ fr' ys hsrc;obtain⟨σ1,hr1,hl1,hmv,hs⟩:=jof hK hr hl hsrc hx;have hd1:=hmv _ _ hd;generalize vAps A δ=A' at hk hd1;have fin:∀{tg:Nat} {ty:TypeId} {fr:Bool} {its:List TypeId} {xs:List u.den} {off n:Nat},(s.aps δ).H[tg]? =some (.arr ty (.fz fr) its u xs)→SlR w σ1 (.o tg) u.sz off n (a.eval d)→off+n≤xs.length→k (δ++[.set tg (.arr ty (.fz (fr&&fr')) its u (qbv xs off n ys))]) (.int .i64 ((min ys.length n:Nat):Int))=some r→ot P U w0 σ0 K N o s a w k r:=by
   intro tg ty fr its xs off n ho hsl hle hk;obtain⟨w',hrun,hr2⟩:=jpl hF hr1 ho hsl hle hs (by omega) (t' :=t') (ty2:=o.type) (f8 hF ht) hi (by omega);have hrun:(execOp a.eval o).run P w= .ok (.value (goInt (Nat.min ys.length n))) w' :=by
    unfold execOp;simp only[hop,resolve,invoke,builtin,Sem.run_bind,Sem.run_pure,Result.andThen_ok,List.map_toArray,List.map_cons,List.map_nil,hrun]
   refine ot.val (σ' :=σ1) hk hrun (by rw[qfx];exact hr2) ?_;show goInt (Nat.min ys.length n)=_;rfl
  unfold jhu at hk;split at hk
  ·rename_i tg;split at hk
   ·rename_i ty fr its u2 xs hov;split at hk
    ·rename_i h2 _;subst h2;have ho:=hl1.ob hov;obtain⟨n0,sz0,hI,hsl⟩:=hd1;have hI' :aj (vw (s.aps δ).H) (.o tg)=some (n0,sz0):=hI;simp only[aj,ax ho,Option.map_some,Option.some.injEq,Prod.mk.injEq]at hI';obtain⟨rfl,rfl⟩:=hI';exact fin ho hsl (by omega) hk
    ·cases hk
   ·cases hk
  ·rename_i tg off n;split at hk
   ·rename_i ty fr its u2 xs hov;split at hk
    ·rename_i h2 _;subst h2;have ho:=hl1.ob hov;obtain⟨n0,sz0,hI,hle,hsl⟩:=hd1;have hI' :aj (vw (s.aps δ).H) (.o tg)=some (n0,sz0):=hI;simp only[aj,ax ho,Option.map_some,Option.some.injEq,Prod.mk.injEq]at hI';obtain⟨rfl,rfl⟩:=hI';exact fin ho hsl hle hk
    ·cases hk
   ·cases hk
  ·cases hk
 ·cases hk
theorem jax(z:Array Value)(n:Nat):(Builtin.zeroCells z n).size=n*z.size:=by simp[Builtin.zeroCells]
theorem q0h(z:Array Value)(n sz j f:Nat)(hz:z.size=sz)(hf:f<sz)(hj:j<n):(Builtin.zeroCells z n).toList[j*sz+f]? =z.toList[f]? :=by
 have h1:(j+1)*sz≤n*sz:=Nat.mul_le_mul_right _ (by omega);rw[Nat.add_mul]at h1;have h2:j*sz+f<n*z.size:=by rw[hz];omega
 have h3:(j*sz+f) % z.size=f:=by rw[hz,Nat.mul_comm,Nat.mul_add_mod,Nat.mod_eq_of_lt hf]
 have h4:f<z.size:=by omega
 rw[Array.getElem?_toList,Array.getElem?_toList];simp[Builtin.zeroCells,h2,h3,h4]
theorem jkz(hF:c9 P tt){s:TS}{a:Act}{w:World}{σ:Pl}(h:c7 U w0 σ0 K N s a w σ){tg:Nat}{ty:TypeId}{fr:Bool}{its:List TypeId}{u:Ty}{xs:List u.den}(ho:s.H[tg]? =some (.arr ty (.fz fr) its u xs)){off n:Nat}{vd:Value}(hd:SlR w σ (.o tg) u.sz off n vd)(hle:off+n≤xs.length)
  {t ty2 el:TypeId} {ei:TI} (hut:P.underlying t=some (.slice el)) (hel:elT tt el=some (u,ei)):
  ∃w',(Builtin.clear_ #[t] ty2 #[vd]).run P w= .ok (.tuple #[]) w' ∧c7 U w0 σ0 K N ⟨s.S,s.H.set tg (.arr ty (.fz (fr&&true)) its u (qbv xs off n (List.replicate n u.dft)))⟩ a w' σ:=by
 obtain⟨hti,husz,hpos,hz,hz1,hzB⟩:=q04 hel;obtain⟨i,d,z,e1,e2,e3,e4,e5,e6,e7⟩:=(hF el ei hti).1;have hzs:z.cells.size=u.sz:=by rw[←Array.length_toList,e7,hz,husz]
 have hposu:0<u.sz:=by omega
 obtain⟨hzl,hzc⟩:=q0g _ _ hzB;rw[Ty.cells_len]at hzl;have hnl:(Builtin.zeroCells z.cells n).toList.length=n*u.sz:=by rw[Array.length_toList,jax,hzs]
 have hrep:∀j,(List.replicate n u.dft).getD j u.dft=u.dft:=by
  intro j;rw[List.getD_eq_getElem?_getD,List.getElem?_replicate];split<;>rfl
 have hone:∀v∈(Builtin.zeroCells z.cells n).toList,v.oneCell' =true:=by
  intro v hv;obtain⟨j,hj⟩:=List.getElem?_of_mem hv;have hjl:=(List.getElem?_eq_some_iff.1 hj).1;rw[hnl]at hjl;have e:=q0h z.cells n u.sz (j/u.sz) (j % u.sz) hzs (Nat.mod_lt _ hposu) ((Nat.div_lt_iff_lt_mul hposu).2 hjl);rw[Nat.div_add_mod',hj,e7]at e;simp only[uy,List.all_eq_true]at hz1;exact hz1 _ (List.mem_of_getElem? e.symm)
 have hzv:(zeroValue el).run P w= .ok z w:=by simp[zeroValue,typeInfo,e1,e6]
 refine jcz (fr' :=true) (ys:=List.replicate n u.dft) h ho hd hle hposu (news:=(Builtin.zeroCells z.cells n).toList) (by rw[hnl,List.length_replicate]) hone (fun j f hj hf=> ?_) (fun hm0=> ?_) (fun g o cc cur e hm0 e1 hh hfit=> ?_)
 ·rw[List.length_replicate]at hj;rw[hrep];obtain⟨zu,hzu⟩:∃zu,ei.zero[f]? =some zu:=⟨_,List.getElem?_eq_getElem (by omega)⟩;refine⟨zu,?_,(hzc f zu hzu).1 _⟩;rw[q0h z.cells n u.sz j f hzs hf hj,e7];exact hzu
 ·rw[List.length_replicate,Nat.min_self]at hm0;subst hm0;obtain⟨b,dc,rfl⟩:∃b dc,vd= .slice b 0 dc:=by
   rcases hd with⟨b,rfl,_⟩|⟨g,o,cc,cur,e,_,rfl,_⟩<;>exact⟨_,_,rfl⟩
  cases b<;>simp[Builtin.clear_,run_underlying hut]
 ·rw[List.length_replicate,Nat.min_self]at hm0;subst e1;rw[List.length_replicate,Nat.min_self,←hnl,List.take_length]at hfit⊢;have hst:=run_storeCells_at P g (o+off*u.sz) e (Builtin.zeroCells z.cells n).toList 0 cur w hh (by simpa using hfit) hone;obtain⟨n,rfl⟩:∃m,n=m+1:=⟨n-1,by omega⟩;simp[Builtin.clear_,run_underlying hut,hzv,hst]
theorem jr7(hF:c9 P tt){o:Oper}{s:TS}{a:Act}{w:World}{σ:Pl}(hr:c7 U w0 σ0 K N s a w σ){Hv:List TOb}(hl:HLe F Hv s.H){k:List St→TV→Option R}{r:R}{t el:TypeId}{b1 b2:Nat}{z1:List Value}{d:Operand}{u:Ty}{ei:TI}{A:TV}
  (hop:o.op= .call ⟨.builtin .clear,⟨[d]⟩,⟨[t]⟩⟩) (ht:tt t=some ⟨.slice el,b1,b2,z1⟩) (hel:elT tt el=some (u,ei)) (hd:VR (gr U (vw s.H) w σ) A (a.eval d)) (hk:q0s u A Hv k=some r):ot P U w0 σ0 K N o s a w k r:=by
 have fin:∀{tg:Nat} {ty:TypeId} {fr:Bool} {its:List TypeId} {xs:List u.den} {off n:Nat},s.H[tg]? =some (.arr ty (.fz fr) its u xs)→SlR w σ (.o tg) u.sz off n (a.eval d)→off+n≤xs.length→k [.set tg (.arr ty (.fz (fr&&true)) its u (qbv xs off n (List.replicate n u.dft)))] .any=some r→ot P U w0 σ0 K N o s a w k r:=by
  intro tg ty fr its xs off n ho hsl hle hk;obtain⟨w',hrun,hr2⟩:=jkz hF hr ho hsl hle (ty2:=o.type) (f8 hF ht) hel;have hrun:(execOp a.eval o).run P w= .ok (.value (.tuple #[])) w' :=by
   unfold execOp;simp only[hop,resolve,invoke,builtin,Sem.run_bind,Sem.run_pure,Result.andThen_ok,List.map_toArray,List.map_cons,List.map_nil,hrun]
  exact ot.val (σ' :=σ) hk hrun hr2 trivial
 unfold q0s at hk;split at hk
 ·rename_i tg;split at hk
  ·rename_i ty fr its u2 xs hov;split at hk
   ·rename_i h2 _;obtain⟨h2⟩:=h2;subst h2;have ho:=hl.ob hov;obtain⟨n0,sz0,hI,hsl⟩:=hd;have hI' :aj (vw s.H) (.o tg)=some (n0,sz0):=hI;simp only[aj,ax ho,Option.map_some,Option.some.injEq,Prod.mk.injEq]at hI';obtain⟨rfl,rfl⟩:=hI';exact fin ho hsl (by omega) hk
   ·cases hk
  ·cases hk
 ·rename_i tg off n;split at hk
  ·rename_i ty fr its u2 xs hov;split at hk
   ·rename_i h2 _;obtain⟨h2⟩:=h2;subst h2;have ho:=hl.ob hov;obtain⟨n0,sz0,hI,hle,hsl⟩:=hd;have hI' :aj (vw s.H) (.o tg)=some (n0,sz0):=hI;simp only[aj,ax ho,Option.map_some,Option.some.injEq,Prod.mk.injEq]at hI';obtain⟨rfl,rfl⟩:=hI';exact fin ho hsl hle hk
   ·cases hk
  ·cases hk
 ·cases hk
end
end Go.K
namespace Go.K
open Go.M Go.RowKit
def q64(P:Program)(f:FuncId):Prop:=∃fn,P.funcs[f]? =some fn∧(fn.name== "runtime.NumGoroutine")=false∧fn.body.isNone=false
theorem qhl{P:Program}{f:FuncId}(h:q64 P f)(args:Array Value)(w:World):(callFunc f args).run P w= .ok (.enter f args) w:=by
 obtain⟨fn,h1,h2,h3⟩:=h;simp only[callFunc,Sem.run_bind,run_program,Result.andThen_ok,h1,h2,h3,Bool.false_eq_true,if_false,Sem.run_pure]
mutual
def TV.fresh:TV→Bool
 | .sl fr t _=>fr
 | .rptr fr t _ _ _=>fr
 | .dm fr _ _ _=>fr
 | .fn _ cs=>TV.freshL cs
 | .agg cs=>TV.freshL cs
 | .tup cs=>TV.freshL cs
 | .cond _ a=>TV.fresh a
 | .nl _ a=>TV.fresh a
 |_=>true
def TV.freshL:List TV→Bool
 |[]=>true
 |v::l=>TV.fresh v&&TV.freshL l
end
def TOb.fresh:TOb→Bool
 | .arr _ (.fz fr) _ u _=>fr||u.flat
 | .arr _ _ _ _ _=>true
 | .cs _ _ _ l=>TV.freshL l
 | .mp _ _ _=>true
 | .mo _ _ _ _ _=>true
 | .gone=>true
def qg0:List TOb→Bool
 |[]=>true
 |o::l=>o.fresh&&qg0 l
def TG.at:TG→Nat→TG
 | .o _,j=> .o j
 | .r _ i f,j=> .r j i f
theorem TG.at_ob(T:TG)(j:Nat):(T.at j).ob=j:=by cases T<;>rfl
theorem TG.at_at(T:TG)(j k:Nat):(T.at j).at k=T.at k:=by cases T<;>rfl
theorem TG.at_self(T:TG):T.at T.ob=T:=by cases T<;>rfl
theorem TG.at_inj{T T' :TG}{j:Nat}(h:T.at j=T'.at j)(ho:T.ob=T'.ob):T=T' :=by
 cases T<;>cases T' <;>simp_all[TG.at,TG.ob]
def qls(ρ:List Nat)(σ:Pl):Pl:=fun T=>if T.ob<ρ.length then σ (T.at (ρ.getD T.ob 0))else none
def qd9(ρ:List Nat)(U:Nat→Prop)(σ:Pl)(b:Nat):Prop:=U b∨∃T o,σ T=some (b,o)∧inL T.ob ρ=false
structure MdlOK (P : Program) (f : FuncId) (M : Mdl) : Prop where
 fn : q64 P f
 run : ∀ a b, M.m a = some b → ∀ (U : Nat → Prop) (w : World) (σ : Pl), HR U w σ (br M.kp) (vw (M.objs a)) w σ → ∀ vs : List Value, fj (gr U (vw (M.objs a)) w σ) (M.args a) vs →
   Calls P f vs.toArray w fun e w' => ∃ v σ', e = .returned v ∧ HR U w σ (br M.kp) (vw (M.outs a b)) w' σ' ∧ VR (gr U (vw (M.outs a b)) w' σ') (M.res a b) v
 dec : ∀ args Hv H a ρ bs, HLe (fun _ => False) Hv H → M.dec args Hv = some (a, ρ, bs) → q3w ρ = true → q3n Hv.length ρ = true → q1q ρ bs = true → ∀ (U : Nat → Prop) (w0 : World) (σ0 : Pl) (K : Nat → Bool) (w : World) (σ : Pl), HR U w0 σ0 K (vw H) w σ →
   HR (qd9 ρ U σ) w (qls ρ σ) (br M.kp) (vw (M.objs a)) w (qls ρ σ) ∧ ∀ vs : List Value, fj (gr U (vw H) w σ) args vs → fj (gr (qd9 ρ U σ) (vw (M.objs a)) w (qls ρ σ)) (M.args a) vs
 fresh : ∀ a b, M.m a = some b → TV.fresh (M.res a b) = true ∧ qg0 (M.outs a b) = true
 cs : ∀ (R : Type) (b : M.B) (k : M.B → Option R) (r : R), M.cs b k = some r → k b = some r
theorem qyq{t:Nat}:∀{ρ:List Nat},inL t ρ=true↔t∈ρ
 |[]=>by simp[inL]
 |a::l=>by
  simp only[inL,Bool.or_eq_true,List.mem_cons,qyq (ρ:=l)];constructor
  ·rintro(h|h)
   ·exact .inl (aw h).symm
   ·exact .inr h
  ·rintro(rfl|h)
   ·exact .inl (Nat.beq_refl _)
   ·exact .inr h
theorem qyr{t:Nat}{ρ:List Nat}:inL t ρ=false↔t∉ρ:=by
 rw[←qyq (ρ:=ρ)];cases inL t ρ<;>simp
theorem q3x:∀{ρ:List Nat},q3w ρ=true→ρ.Nodup
 |[],_=>List.nodup_nil
 |a::l,h=>by
  simp only[q3w,Bool.and_eq_true,Bool.not_eq_true']at h;exact List.nodup_cons.2 ⟨qyr.1 h.1,q3x h.2⟩
theorem jhb{n:Nat}:∀{ρ:List Nat},q3n n ρ=true→∀t∈ρ,t<n
 |[],_,t,h=>by simp at h
 |a::l,h,t,ht=>by
  simp only[q3n,Bool.and_eq_true]at h;rcases List.mem_cons.1 ht with rfl|ht
  ·exact cz h.1
  ·exact jhb h.2 t ht
theorem qdc{ρ:List Nat}{n j:Nat}(h:j<ρ.length):upN ρ n j=ρ.getD j 0:=by
 unfold upN;rw[show Nat.blt j ρ.length=true by simpa[Nat.blt_eq]using h];rfl
theorem qhz{ρ:List Nat}{n j:Nat}(h:ρ.length≤j):upN ρ n j=n+(j-ρ.length):=by
 unfold upN;rw[show Nat.blt j ρ.length=false by
  cases hb:Nat.blt j ρ.length with
  |false=>rfl
  |true=>have:=cz hb;omega]
 rfl
theorem ba{ρ:List Nat}{j:Nat}(h:j<ρ.length):ρ.getD j 0∈ρ:=by
 rw[List.getD_eq_getElem?_getD,List.getElem?_eq_getElem h];exact List.getElem_mem h
theorem jxn{ρ:List Nat}{n:Nat}(hd:ρ.Nodup)(hlt:∀t∈ρ,t<n){j k:Nat}(h:upN ρ n j=upN ρ n k):j=k:=by
 rcases Nat.lt_or_ge j ρ.length with h1|h1<;>rcases Nat.lt_or_ge k ρ.length with h2|h2
 ·rw[qdc h1,qdc h2]at h;simp only[List.getD_eq_getElem?_getD,List.getElem?_eq_getElem h1,List.getElem?_eq_getElem h2,Option.getD_some]at h;refine(List.getElem?_inj h1 hd).1 ?_;rw[List.getElem?_eq_getElem h1,List.getElem?_eq_getElem h2,h]
 ·rw[qdc h1,qhz h2]at h;have:=hlt _ (ba h1);omega
 ·rw[qhz h1,qdc h2]at h;have:=hlt _ (ba h2);omega
 ·rw[qhz h1,qhz h2]at h;omega
open Classical in
noncomputable def dn(ρ:List Nat)(n L t:Nat):Option Nat:=if h:∃j,j<L∧upN ρ n j=t then some h.choose else none
theorem qf1{ρ:List Nat}{n L t j:Nat}(h:dn ρ n L t=some j):j<L∧upN ρ n j=t:=by
 unfold dn at h;split at h
 ·rename_i hx;cases h;exact hx.choose_spec
 ·cases h
theorem qxz{ρ:List Nat}{n L t:Nat}(h:dn ρ n L t=none){j:Nat}(hj:j<L):upN ρ n j≠t:=by
 unfold dn at h;split at h
 ·cases h
 ·rename_i hx;exact fun e=>hx ⟨j,hj,e⟩
theorem j4d{ρ:List Nat}{n L:Nat}(hd:ρ.Nodup)(hlt:∀t∈ρ,t<n){j:Nat}(hj:j<L):dn ρ n L (upN ρ n j)=some j:=by
 cases h:dn ρ n L (upN ρ n j)with
 |none=>exact absurd rfl (qxz h hj)
 |some k=>rw[jxn hd hlt (qf1 h).2]
theorem qno:∀(ρ:List Nat) (l:List TOb) (H:List TOb),ρ.Nodup→(∀t∈ρ,t<H.length)→∀t,(ia H (qsp ρ l))[t]? =if t∈ρ∧ρ.idxOf t<l.length then l[ρ.idxOf t]? else H[t]?
 |[],l,H,_,_,t=>by cases l<;>simp[qsp,ia]
 |a::ρ,[],H,_,_,t=>by simp[qsp,ia]
 |a::ρ,o::l,H,hd,hlt,t=>by
  obtain⟨hn,hd⟩:=List.nodup_cons.1 hd;simp only[qsp,ia,hAp];rw[qno ρ l (H.set a o) hd (fun t ht=>by rw[List.length_set];exact hlt t (List.mem_cons_of_mem _ ht)) t];by_cases e:t=a
  ·subst e;rw[if_neg (fun h=>hn h.1),List.getElem?_set_self (hlt t List.mem_cons_self)];simp
  ·rw[List.getElem?_set_ne (Ne.symm e)];have hidx:(a::ρ).idxOf t=ρ.idxOf t+1:=by
    rw[List.idxOf_cons];have:(a==t)=false:=by simpa using Ne.symm e
    rw[this];rfl
   simp only[List.mem_cons,e,false_or,hidx,List.length_cons,Nat.add_lt_add_iff_right,List.getElem?_cons_succ]
theorem qjq:∀(ρ:List Nat) (l:List TOb) (H:List TOb),(ia H (qsp ρ l)).length=H.length
 |[],l,H=>by cases l<;>rfl
 |a::ρ,[],H=>rfl
 |a::ρ,o::l,H=>by simp only[qsp,ia,hAp];rw[qjq ρ l];simp
theorem js0(H:List TOb)(n:Nat)(ob:TOb)(hn:n≤H.length):n+1≤(ey H n ob).length∧H.length≤(ey H n ob).length:=by
 unfold ey;cases hb:Nat.blt n H.length with
 |true=>have:=cz hb;simp;omega
 |false=>simp;omega
theorem qnn:∀(l:List TOb) (n:Nat) (H:List TOb),n≤H.length→∀t,(ia H (qza n l))[t]? =if n≤t∧t-n<l.length then l[t-n]? else H[t]?
 |[],n,H,hn,t=>by simp[qza,ia]
 |o::l,n,H,hn,t=>by
  simp only[qza,ia,hAp];rw[qnn l (n+1) _ (js0 H n o hn).1 t,io H n o hn];by_cases e:t=n
  ·subst e;rw[if_neg (by omega),if_pos rfl,if_pos (by simp)];simp
  ·rw[if_neg e];by_cases h:n+1≤t
   ·have:t-n=(t-(n+1))+1:=by omega
    simp only[this,List.length_cons,Nat.add_lt_add_iff_right,List.getElem?_cons_succ,h,true_and,show n≤t by omega]
   ·rw[if_neg (by omega),if_neg (by omega)]
theorem jvt(S:List (Nat×TV))(H:List TOb)(n:Nat)(ρ:List Nat)(kp:List Bool)(outs:List TOb):((TS.mk S H).aps (qdt n ρ kp outs)).S=sbS (xu ρ kp) S:=by
 have h1:∀(ρ:List Nat) (l:List TOb) (s:TS) (δ:List St),(s.aps (qsp ρ l++δ)).S=((TS.mk s.S (ia s.H (qsp ρ l))).aps δ).S:=by
  intro ρ
  induction ρ with
  |nil=>intro l s δ;cases l<;>rfl
  |cons a ρ ih=>intro l s δ;cases l with
   |nil=>rfl
   |cons o l=>exact ih l _ δ
 have h2:∀(l:List TOb) (n:Nat) (s:TS),(s.aps (qza n l)).S=s.S:=by
  intro l
  induction l with
  |nil=>intro n s;rfl
  |cons o l ih=>intro n s;exact ih (n+1) _
 unfold qdt;show(((TS.mk S H).ap _).aps _).S=_;rw[h1,h2];rfl
end Go.K
namespace Go.K
open Go.M Go.RowKit
mutual
theorem VR.wide{G:Gr}{X' :Nat→Prop}(h:∀b,X' b→G.X b∨G.U b):∀(A:TV) (v:Value),A.fresh=true→VR G A v→VR ⟨G.w,X',G.U,G.σ,G.I⟩ A v
 | .any,v,_,hv=>trivial
 | .int _ _,v,_,hv=>hv
 | .bool _,v,_,hv=>hv
 | .val _,v,_,hv=>hv
 | .e0,v,_,hv=>hv
 | .sl fr t xs,v,hf,hv=>by
  simp only[TV.fresh]at hf;subst hf;exact Ty.C_low (w:=G.w) (w' :=G.w) ⟨Nat.le_refl _,fun b _ hb hb' =>hb (by rcases hb' with e|e;exact(h b e).elim .inl fun u=> .inr ⟨rfl,u⟩;exact .inr e),fun b _ _=>rfl⟩ (.slice t) xs 0 v hv
 | .rptr fr t xs i f,v,hf,hv=>by
  simp only[TV.fresh]at hf;subst hf;obtain⟨b,o,hv,hr⟩:=hv;exact⟨b,o,hv,hr.low (w:=G.w) (w' :=G.w) ⟨Nat.le_refl _,fun b _ hb hb' =>hb (by rcases hb' with e|e;exact(h b e).elim .inl fun u=> .inr ⟨rfl,u⟩;exact .inr e),fun b _ _=>rfl⟩⟩
 | .own T,v,_,hv=>hv
 | .ownS T off m,v,_,hv=>hv
 | .ptr T i f,v,_,hv=>hv
 | .mp T,v,_,hv=>hv
 | .dm fr kt vt es,v,hf,hv=>by
  simp only[TV.fresh]at hf;subst hf;exact qvk.low (w:=G.w) (w' :=G.w) ⟨Nat.le_refl _,fun b _ hb hb' =>hb (by rcases hb' with e|e;exact(h b e).elim .inl fun u=> .inr ⟨rfl,u⟩;exact .inr e),fun b _ _=>rfl⟩ hv
 | .fn f cs,v,hf,hv=>by
  obtain⟨l,hl,hc⟩:=hv;exact⟨l,hl,fj.wide h cs l hf hc⟩
 | .agg cs,v,hf,hv=>by
  obtain⟨l,hl,hc,h1⟩:=hv;exact⟨l,hl,fj.wide h cs l hf hc,h1⟩
 | .tup cs,v,hf,hv=>by
  obtain⟨l,hl,hc⟩:=hv;exact⟨l,hl,fj.wide h cs l hf hc⟩
 | .cond c a,v,hf,hv=>by
  unfold VR at hv⊢;split
  ·rename_i hc;rw[if_pos hc]at hv;exact VR.wide h a v hf hv
  ·rename_i hc;rw[if_neg hc]at hv;exact hv
 | .nl _ a,v,hf,hv=>⟨VR.wide h a v hf hv.1,hv.2⟩
theorem fj.wide{G:Gr}{X' :Nat→Prop}(h:∀b,X' b→G.X b∨G.U b):∀(cs:List TV) (l:List Value),TV.freshL cs=true→fj G cs l→fj ⟨G.w,X',G.U,G.σ,G.I⟩ cs l
 |[],l,_,hl=>hl
 |A::cs,l,hf,hl=>by
  obtain⟨u,r,rfl,h1,h2⟩:=hl;simp only[TV.freshL,Bool.and_eq_true]at hf;exact⟨u,r,rfl,VR.wide h A u hf.1 h1,fj.wide h cs r hf.2 h2⟩
end
mutual
theorem Ty.flat_cells(fr:Bool):∀(t:Ty) (x:t.den),t.flat=true→∀A∈t.cells fr x,A.fresh=true
 | .int _,_,_,A,h=>by simp only[Ty.cells,List.mem_singleton]at h;subst h;rfl
 | .bool,_,_,A,h=>by simp only[Ty.cells,List.mem_singleton]at h;subst h;rfl
 | .str,_,_,A,h=>by simp only[Ty.cells,List.mem_singleton]at h;subst h;rfl
 | .slice _,_,hf,A,h=>by simp[Ty.flat]at hf
 | .struct l,x,hf,A,h=>TyL.flat_cells fr l x hf A h
 | .tree _ _,_,hf,A,h=>by simp[Ty.flat]at hf
theorem TyL.flat_cells(fr:Bool):∀(l:TyL) (x:l.den),l.flat=true→∀A∈l.cells fr x,A.fresh=true
 | .nil,_,_,A,h=>by simp[TyL.cells]at h
 | .cons t l,x,hf,A,h=>by
  simp only[TyL.flat,Bool.and_eq_true]at hf;simp only[TyL.cells,List.mem_append]at h;rcases h with h|h
  ·exact Ty.flat_cells fr t _ hf.1 A h
  ·exact TyL.flat_cells fr l _ hf.2 A h
end
theorem qvv{l:List TV}(h:∀A∈l,A.fresh=true)(f:Nat):(l.getD f .any).fresh=true:=by
 rw[List.getD_eq_getElem?_getD];cases hq:l[f]? with
 |none=>rfl
 |some A=>exact h A (List.mem_of_getElem? hq)
theorem qvu{A:TV}(h:wy true A):A.fresh=true:=by
 cases A<;>simp_all[wy,TV.fresh]
theorem q8j:∀{l:List TV},TV.freshL l=true→∀A∈l,A.fresh=true
 |[],_,A,h=>by simp at h
 |B::l,hf,A,h=>by
  simp only[TV.freshL,Bool.and_eq_true]at hf;rcases List.mem_cons.1 h with rfl|h
  ·exact hf.1
  ·exact q8j hf.2 A h
theorem jc7:∀{H:List TOb},qg0 H=true→∀(t:Nat) ob,H[t]? =some ob→ob.fresh=true
 |[],_,t,ob,h=>by simp at h
 |o::l,hf,t,ob,h=>by
  simp only[qg0,Bool.and_eq_true]at hf;cases t with
  |zero=>simp at h;subst h;exact hf.1
  |succ t=>exact jc7 hf.2 t ob (by simpa using h)
theorem xx{fr:Bool}{u:Ty}(h:(fr||u.flat)=true)(x:u.den)(f:Nat):((u.cells fr x).getD f .any).fresh=true:=by
 cases fr with
 |true=>exact qvv (fun A hA=>qvu (Ty.cells_form true u x A hA)) f
 |false=>exact qvv (Ty.flat_cells false u x (by simpa using h)) f
theorem jkc{H:List TOb}(hf:qg0 H=true){T:TG}{v:Vw}(hv:vw H T=some v)(i f:Nat):(v.cs i f).fresh=true:=by
 cases T with
 |o t=>
  simp only[vw]at hv;cases hq:H[t]? with
  |none=>rw[hq]at hv;cases hv
  |some ob=>
   rw[hq]at hv;have ho:=jc7 hf t ob hq;cases ob with
   |gone=>cases hv
   |mp kt vt es=>cases hv;simp only[qt4];split<;>first|rfl|(split<;>rfl)
   |mo kt u ety es h=>cases hv;simp only[moC];split<;>first|rfl|(split<;>first|rfl|(split<;>rfl))
   |cs ty sz n l=>
    cases hv;exact qvv (q8j ho) _
   |arr ty md its u xs=>
    cases hv;simp only[];have hm:((u.cells md.fr (xs.getD i u.dft)).getD f .any).fresh=true:=by
     cases md with
     |fz fr=>exact xx ho _ _
     |own=>exact xx rfl _ _
     |hole i0 f0=>exact xx rfl _ _
     |swap i0 j0=>exact xx rfl _ _
    unfold bx;split
    ·rename_i fr0 v0 ys0 e;rw[e]at hm;split
     ·exact hm
     ·rfl
     ·split<;>rfl
     ·split<;>rfl
    ·exact hm
 |r t i' f' =>
  simp only[vw]at hv;cases hq:H[t]? with
  |none=>rw[hq]at hv;cases hv
  |some ob=>
   rw[hq]at hv;cases ob with
   |gone=>cases hv
   |mp kt vt es=>cases hv
   |mo kt u ety es h=>
    simp only[vwR]at hv;split at hv
    ·cases hv;exact xx rfl _ _
    ·cases hv
   |cs ty sz n l=>cases hv
   |arr ty md its u xs=>
    simp only[vwR]at hv;split at hv
    ·split at hv
     ·cases hv;exact xx rfl _ _
     ·cases hv
    ·cases hv
section
variable {s : TS} {n : Nat} {ρ : List Nat} {kp : List Bool} {outs : List TOb}
theorem jmu:(s.aps (qdt n ρ kp outs)).H=ia (ia (ci (xu ρ kp) s.H) (qsp ρ (ci (upA ρ n) (outs.take ρ.length)))) (qza n (ci (upA ρ n) (outs.drop ρ.length))):=by
 rw[qki];unfold qdt;show ia (hAp s.H _) _=_;rw[rb];rfl
theorem jr1(hd:ρ.Nodup)(hlt:∀t∈ρ,t<n)(hn:n≤s.H.length)(hL:ρ.length≤outs.length){j:Nat}(hj:j<outs.length):(s.aps (qdt n ρ kp outs)).H[upN ρ n j]? =(outs[j]?).map (TOb.sb (upA ρ n)):=by
 rw[jmu,qnn _ _ _ (by rw[qjq,ck];exact hn)];rcases Nat.lt_or_ge j ρ.length with h|h
 ·have hm:=ba h;have hidx:ρ.idxOf (ρ.getD j 0)=j:=by
   rw[List.getD_eq_getElem?_getD,List.getElem?_eq_getElem h,Option.getD_some];exact List.Nodup.idxOf_getElem hd j h
  rw[qdc h,if_neg (by have:=hlt _ hm;omega),qno _ _ _ hd (fun t ht=>by rw[ck];have:=hlt t ht;omega),if_pos ⟨hm,by rw[hidx,ck,List.length_take];omega⟩,hidx,fp,List.getElem?_take,if_pos h]
 ·rw[qhz h,if_pos ⟨by omega,by rw[ck,List.length_drop];omega⟩,fp,List.getElem?_drop];congr 2;omega
theorem jkx(hd:ρ.Nodup)(hlt:∀t∈ρ,t<n)(hn:n≤s.H.length)(hL:ρ.length≤outs.length){t:Nat}(ht:dn ρ n outs.length t=none):(s.aps (qdt n ρ kp outs)).H[t]? =(ci (xu ρ kp) s.H)[t]? :=by
 rw[jmu,qnn _ _ _ (by rw[qjq,ck];exact hn),if_neg,qno _ _ _ hd (fun t ht=>by rw[ck];have:=hlt t ht;omega),if_neg]
 ·rintro⟨hm,hi⟩;have h:=List.idxOf_lt_length_of_mem hm;refine qxz ht (j:=ρ.idxOf t) (by omega) ?_;rw[qdc h,List.getD_eq_getElem?_getD,List.getElem?_eq_getElem h,Option.getD_some];exact List.getElem_idxOf h
 ·rintro⟨h1,h2⟩;rw[ck,List.length_drop]at h2;refine qxz ht (j:=t-n+ρ.length) (by omega) ?_;rw[qhz (by omega)];omega
theorem jtl{j:Nat}(md:Md)(u:Ty)(xs:List u.den)(i f:Nat):bx (upN ρ n j) md u xs i f=(bx j md u xs i f).sb (upA ρ n):=by
 unfold bx;split
 ·cases md with
  |fz fr=>rfl
  |own=>rfl
  |hole i0 f0=>simp only[];split<;>rfl
  |swap i0 j0=>simp only[];split<;>rfl
 ·rw[Ty.cells_sb]
theorem j20{j:Nat}(kt:Ty){β:Type}(es:List (kt.den×β))(h:Option Nat)(i f:Nat):moC (upN ρ n j) kt es h i f=(moC j kt es h i f).sb (upA ρ n):=by
 unfold moC;split
 ·split
  ·rfl
  ·split<;>rfl
  ·rfl
 ·rfl
theorem j3r{j:Nat}(o:TOb):vwO (upN ρ n j) (o.sb (upA ρ n))=(vwO j o).map (Vw.sb (upA ρ n)):=by
 cases o with
 |arr ty md its u xs=>
  simp only[TOb.sb,vwO,Option.map_some,Vw.sb];congr 2;funext i f;exact jtl md u xs i f
 |cs ty sz m l=>
  simp only[TOb.sb,vwO,Option.map_some,Vw.sb];congr 2;funext i f;exact TV.sbL_at _ l _
 |mp kt vt es=>
  simp only[TOb.sb,vwO,Option.map_some,Vw.sb];congr 2;funext i f;exact(jnm _ kt vt es i f).symm
 |mo kt u ety es h=>
  simp only[TOb.sb,vwO,Option.map_some,Vw.sb];congr 2;funext i f;exact j20 kt es h i f
 |gone=>rfl
theorem j3s{i f:Nat}(o:TOb):vwR i f (o.sb (upA ρ n))=(vwR i f o).map (Vw.sb (upA ρ n)):=by
 cases o with
 |arr ty md its u xs=>
  simp only[TOb.sb,vwR];split
  ·split
   ·simp only[Option.map_some,Vw.sb];congr 2;funext j g;exact(Ty.cells_sb _ true _ _ g).symm
   ·rfl
  ·rfl
 |cs ty sz m l=>rfl
 |mp kt vt es=>rfl
 |mo kt u ety es h=>
  simp only[TOb.sb,vwR];split
  ·simp only[Option.map_some,Vw.sb];congr 2;funext j g;exact(Ty.cells_sb _ true _ _ g).symm
  ·rfl
 |gone=>rfl
theorem j6o(hd:ρ.Nodup)(hlt:∀t∈ρ,t<n)(hn:n≤s.H.length)(hL:ρ.length≤outs.length)(T:TG)(hT:T.ob<outs.length):vw (s.aps (qdt n ρ kp outs)).H (T.at (upN ρ n T.ob))=(vw outs T).map (Vw.sb (upA ρ n)):=by
 have h:=jr1 (s:=s) (kp:=kp) hd hlt hn hL hT;cases T with
 |o j=>
  simp only[TG.ob,TG.at]at h⊢;simp only[vw,h];cases hq:outs[j]? with
  |none=>rfl
  |some o=>exact j3r o
 |r j i f=>
  simp only[TG.ob,TG.at]at h⊢;simp only[vw,h];cases hq:outs[j]? with
  |none=>rfl
  |some o=>exact j3s o
theorem jvs{t i f:Nat}(h:inL t ρ=false):xu ρ kp (.r t i f)= .id:=by simp[xu,h]
theorem jxo(hd:ρ.Nodup)(hlt:∀t∈ρ,t<n)(hn:n≤s.H.length)(hL:ρ.length≤outs.length){T:TG}(ht:dn ρ n outs.length T.ob=none):vw (s.aps (qdt n ρ kp outs)).H T=(vw s.H T).map (Vw.sb (xu ρ kp)):=by
 rw[←qs9 (θ:=xu ρ kp) (H:=s.H)]
 ·exact j6n (jkx hd hlt hn hL ht)
 ·intro i f;refine jvs (qyr.2 fun hm=> ?_);have h:=List.idxOf_lt_length_of_mem hm;refine qxz ht (j:=ρ.idxOf T.ob) (by omega) ?_;rw[qdc h,List.getD_eq_getElem?_getD,List.getElem?_eq_getElem h,Option.getD_some];exact List.getElem_idxOf h
end
theorem q8s:∀{ρ:List Nat} {kp:List Bool} {l H:List TOb},gm (jbv ρ kp l H)→ρ.length≤l.length
 |[],_,_,_,_=>Nat.zero_le _
 |t::ρ,kp,[],H,h=>by have:=h false (by simp[jbv]);cases this
 |t::ρ,[],o::l,H,h=>by have:=h false (by simp[jbv]);cases this
 |t::ρ,true::kp,o::l,H,h=>by
  have:=q8s (gm.app h).2;simp;omega
 |t::ρ,false::kp,o::l,H,h=>by
  have:=q8s (ρ:=ρ) (kp:=kp) (l:=l) (H:=H) h;simp;omega
theorem jf4:∀{ρ:List Nat} {kp:List Bool} {l H:List TOb},gm (jbv ρ kp l H)→∀{j:Nat},j<ρ.length→br kp j=true→∃o,l[j]? =some o∧gm (jv0 o (H.getD (ρ.getD j 0) .gone))
 |[],_,_,_,_,j,hj,_=>by simp at hj
 |t::ρ,kp,[],H,h,j,_,_=>by have:=h false (by simp[jbv]);cases this
 |t::ρ,[],o::l,H,h,j,_,_=>by have:=h false (by simp[jbv]);cases this
 |t::ρ,true::kp,o::l,H,h,j,hj,hk=>by
  obtain⟨h1,h2⟩:=gm.app h;cases j with
  |zero=>exact⟨o,rfl,h1⟩
  |succ j=>
   obtain⟨o',e1,e2⟩:=jf4 h2 (j:=j) (by simpa using hj) (by simpa[br]using hk);exact⟨o',by simpa using e1,by simpa using e2⟩
 |t::ρ,false::kp,o::l,H,h,j,hj,hk=>by
  cases j with
  |zero=>simp[br]at hk
  |succ j=>
   obtain⟨o',e1,e2⟩:=jf4 (ρ:=ρ) (kp:=kp) (l:=l) (H:=H) h (j:=j) (by simpa using hj) (by simpa[br]using hk);exact⟨o',by simpa using e1,by simpa using e2⟩
theorem jpo{o o' :TOb}(h:gm (jv0 o o')){t t' :Nat}:(vwO t o).map (fun v=>(v.n,v.sz))=(vwO t' o').map (fun v=>(v.n,v.sz))∧o' ≠ .gone:=by
 unfold jv0 at h;split at h
 ·have h1:=aw (h _ List.mem_cons_self);have h2:decide (_=_)=true:=h _ (List.mem_cons_of_mem _ List.mem_cons_self);simp only[decide_eq_true_eq]at h2;exact⟨by simp[vwO,h1,h2],by simp⟩
 ·have h1:=aw (h _ List.mem_cons_self);have h2:=aw (h _ (List.mem_cons_of_mem _ List.mem_cons_self));exact⟨by simp[vwO,h1,h2],by simp⟩
 ·exact⟨by simp[vwO],by simp⟩
 ·exact⟨by simp[vwO],by simp⟩
 ·have:=h false List.mem_cons_self;cases this
theorem jdj:∀{ρ:List Nat} {kp:List Bool} {j:Nat},kp.length=ρ.length→j<ρ.length→qv4 ρ kp (ρ.getD j 0)=false→br kp j=true
 |[],_,j,_,hj,_=>by simp at hj
 |a::ρ,[],j,hl,_,_=>by simp at hl
 |a::ρ,k::kp,j,hl,hj,h=>by
  simp only[qv4,Bool.or_eq_false_iff]at h;cases j with
  |zero=>
   have h1:=h.1;simp only[List.getD_cons_zero,Nat.beq_refl,Bool.true_and,Bool.not_eq_false']at h1;simpa[br]using h1
  |succ j=>
   simpa[br]using jdj (ρ:=ρ) (kp:=kp) (j:=j) (by simpa using hl) (by simpa using hj) (by simpa using h.2)
theorem q1p:∀{kp0:List Bool} {ρ:List Nat} {kp:List Bool},q8p kp0 ρ kp=true→kp.length=ρ.length→∀{j:Nat},j<ρ.length→br kp0 (ρ.getD j 0)=true→br kp j=true
 |kp0,[],_,_,_,j,hj,_=>by simp at hj
 |kp0,a::ρ,[],_,hl,j,_,_=>by simp at hl
 |kp0,a::ρ,k::kp,h,hl,j,hj,hk=>by
  simp only[q8p,Bool.and_eq_true,Bool.or_eq_true,Bool.not_eq_true']at h;cases j with
  |zero=>
   simp only[List.getD_cons_zero]at hk;rcases h.1 with e|e
   ·simpa[br]using e
   ·rw[e]at hk;cases hk
  |succ j=>simpa[br]using q1p h.2 (by simpa using hl) (j:=j) (by simpa using hj) (by simpa using hk)
end Go.K
namespace Go.K
open Go.M Go.RowKit
variable {F : Nat → Prop}
section
variable {U : Nat → Prop} {w0 : World} {σ0 : Pl} {K : Nat → Bool} {N : Nat} {P : Program} {tt : TT} {R Rf : Type}
noncomputable def jku(ρ:List Nat)(n L:Nat)(σ σc:Pl):Pl:=fun T=>match dn ρ n L T.ob with|some j=>σc (T.at j)|none=>σ T
theorem j0b{s:TS}{a:Act}{w w' :World}{σ:Pl}(hr:c7 U w0 σ0 K N s a w σ){Hv:List TOb}(hl:HLe F Hv s.H){kp0:List Bool}(hK:∀t,br kp0 t=false→K t=false)(hn:∀t,Hv.length≤t→K t=false){ρ:List Nat}{kp:List Bool}{outs:List TOb}{res:TV}
  (hdis:q3w ρ=true) (hall:q3n Hv.length ρ=true) (hkeep:q8p kp0 ρ kp=true) (hkl:kp.length=ρ.length) (hlens:gm (jbv ρ kp outs Hv)) (hfr:qg0 outs=true) (hfv:res.fresh=true) (hfree:∀j,ρ.length≤j→j<outs.length→F (upN ρ Hv.length j)) {σc:Pl} {v:Value}
  (hc:HR (qd9 ρ U σ) w (qls ρ σ) (br kp) (vw outs) w' σc) (hv:VR (gr (qd9 ρ U σ) (vw outs) w' σc) res v):
  ∃σ',c7 U w0 σ0 K N (s.aps (qdt Hv.length ρ kp outs)) a w' σ' ∧VR (gr U (vw (s.aps (qdt Hv.length ρ kp outs)).H) w' σ') (res.sb (upA ρ Hv.length)) v:=by
 have hd:=q3x hdis;have hlt:=jhb hall;have hL:=q8s hlens;have hle:=hl.len;have h:=hr.hr;generalize hn0:Hv.length=n at*;have hpull:∀T p,qls ρ σ T=some p→T.ob<ρ.length∧σ (T.at (ρ.getD T.ob 0))=some p:=by
  intro T p hp;unfold qls at hp;split at hp
  ·rename_i e;exact⟨e,hp⟩
  ·cases hp
 have hin:∀t,dn ρ n outs.length t=none→inL t ρ=false:=by
  intro t ht;refine qyr.2 fun hm=> ?_
  have h:=List.idxOf_lt_length_of_mem hm;refine qxz ht (j:=ρ.idxOf t) (by omega) ?_;rw[qdc h,List.getD_eq_getElem?_getD,List.getElem?_eq_getElem h,Option.getD_some];exact List.getElem_idxOf h
 have hstay:∀T g o,dn ρ n outs.length T.ob=none→σ T=some (g,o)→qd9 ρ U σ g∧w'.heap[g]? =w.heap[g]? :=by
  intro T g o hT hσ;refine⟨.inr ⟨T,o,hσ,hin _ hT⟩,hc.blk g (h.lt hσ) fun T' o' h' => ?_⟩;obtain⟨h1,h2⟩:=hpull T' _ h';have:=h.inj _ _ _ _ _ hσ h2;have e:T.ob=ρ.getD T'.ob 0:=by rw[this,TG.at_ob]
  have:=hin _ hT;rw[e]at this;exact qyr.1 this (ba h1)
 have hvn:∀T j,n≤T.ob→dn ρ n outs.length T.ob=some j→vw s.H T=none:=by
  intro T j hT hdn;obtain⟨hjL,hup⟩:=qf1 hdn;have hj:ρ.length≤j:=by
   rcases Nat.lt_or_ge j ρ.length with h1|h1
   ·rw[qdc h1]at hup;have:=hlt _ (ba h1);omega
   ·exact h1
  have hf:=hfree j hj hjL;rw[hup]at hf;cases T with
  |o t=>rcases hl.free t (by rw[hn0];exact hT) hf with e|e<;>simp[vw,e,vwO]
  |r t i f=>rcases hl.free t (by rw[hn0];exact hT) hf with e|e<;>simp[vw,e,vwR]
 let σ' :Pl:=jku ρ n outs.length σ σc;have hσe:∀T,dn ρ n outs.length T.ob=none→σ' T=σ T:=fun T hT=>by simp only[σ',jku,hT]
 have hσs:∀T j,dn ρ n outs.length T.ob=some j→σ' T=σc (T.at j):=fun T j hT=>by simp only[σ',jku,hT]
 have hσu:∀T,T.ob<outs.length→σ' (T.at (upN ρ n T.ob))=σc T:=fun T hT=>by
  rw[hσs _ T.ob (by rw[TG.at_ob];exact j4d hd hlt hT),TG.at_at,TG.at_self]
 have hVu:=fun T hT=>j6o (s:=s) (n:=n) (kp:=kp) (outs:=outs) hd hlt hle hL T hT
 have hVe:=fun T hT=>jxo (s:=s) (n:=n) (kp:=kp) (outs:=outs) hd hlt hle hL (T:=T) hT
 generalize hH' :(s.aps (qdt n ρ kp outs)).H=H' at hVu hVe;have hcase:∀T g o,σ' T=some (g,o)→(∃j,dn ρ n outs.length T.ob=some j∧σc (T.at j)=some (g,o))∨(dn ρ n outs.length T.ob=none∧σ T=some (g,o)):=by
  intro T g o hT;cases hq:dn ρ n outs.length T.ob with
  |some j=>rw[hσs T j hq]at hT;exact .inl ⟨j,rfl,hT⟩
  |none=>rw[hσe T hq]at hT;exact .inr ⟨rfl,hT⟩
 have hcown:∀b,cn (qls ρ σ) b→cn σ b:=by
  rintro b ⟨T,o,hT⟩;obtain⟨_,h2⟩:=hpull T _ hT;exact⟨_,o,h2⟩
 have hkept:∀j,j<ρ.length→br kp j=true→aj (vw H') (.o (ρ.getD j 0))=aj (vw s.H) (.o (ρ.getD j 0))∧σ' (.o (ρ.getD j 0))=σ (.o (ρ.getD j 0))∧qls ρ σ (.o j)=σ (.o (ρ.getD j 0)):=by
  intro j hj hk;have hjL:j<outs.length:=by omega
  have e0:upN ρ n j=ρ.getD j 0:=qdc hj;have e1:qls ρ σ (.o j)=σ (.o (ρ.getD j 0)):=if_pos (c:=(TG.o j).ob<ρ.length) hj;have e2:σ' (.o (ρ.getD j 0))=σc (.o j):=by
   have:=hσu (.o j) hjL;simpa only[TG.ob,TG.at,e0]using this
  refine⟨?_,by rw[e2,hc.keep j hk,e1],e1⟩;have h1:=hVu (.o j) hjL;simp only[TG.ob,TG.at,e0]at h1;obtain⟨o,ho,hdim⟩:=jf4 hlens hj hk;obtain⟨hi,hng⟩:=jpo hdim (t:=j) (t' :=ρ.getD j 0);have hov:Hv[ρ.getD j 0]? =some (Hv.getD (ρ.getD j 0) .gone):=by
   have hx:ρ.getD j 0<Hv.length:=by rw[hn0];exact hlt _ (ba hj)
   generalize ρ.getD j 0=x at hx;rw[List.getD_eq_getElem?_getD,List.getElem?_eq_getElem hx];rfl
  have hos:s.H[ρ.getD j 0]? =some (Hv.getD (ρ.getD j 0) .gone):=by
   rcases hl.at_ _ _ hov with e|e
   ·exact absurd e hng
   ·exact e
  simp only[aj,h1,Option.map_map];simp only[vw,ho,hos];rw[←hi];cases vwO j o<;>rfl
 have hmv:Mv (xu ρ kp) (gr U (vw s.H) w σ) (gr U (vw H') w' σ'):=by
  refine⟨hc.size,fun b hb hx hx' => ?_,fun b _ _ hu=>hu,fun b hb hx=>hc.blk b hb fun T o e=>hx (hcown b ⟨T,o,e⟩),fun T T' q ht hq=> ?_,fun T fr u xs q e=> ?_⟩
  ·obtain⟨T,o,hT⟩:=hx';rcases hcase T b o hT with⟨j,_,e⟩|⟨_,e⟩
   ·rcases(hc.own _ _ _ e).2 with hge|⟨T',o',e'⟩
    ·have hb' :b<w.heap.size:=hb;omega
    ·exact hx (hcown b ⟨T',o',e'⟩)
   ·exact hx ⟨T,o,e⟩
  ·have hnt:∀T,xu ρ kp T≠ .to T' :=by
    intro T;cases T with
    |o t=>simp only[xu];cases qv4 ρ kp t<;>simp
    |r t i f=>simp only[xu];cases inL t ρ<;>simp
   obtain⟨ht,rfl⟩:=ht.resolve_right (hnt T);have hq' :aj (vw s.H) T' =some q:=hq;cases hdn:dn ρ n outs.length T'.ob with
   |none=>
    refine⟨by show aj (vw H') T' =some q;rw[zh (hVe T' hdn)];exact hq',fun g o hg=>⟨by show σ' T' =_;rw[hσe T' hdn];exact hg,fun cur e hh=>⟨cur,?_,rfl⟩⟩⟩;show w'.heap[g]? =_;rw[(hstay T' g o hdn hg).2];exact hh
   |some j=>
    obtain⟨hjL,hup⟩:=qf1 hdn;have hTn:T'.ob<n:=by
     rcases Nat.lt_or_ge T'.ob n with h1|h1
     ·exact h1
     ·rw[aj,hvn T' j h1 hdn]at hq';cases hq'
    have hj:j<ρ.length:=by
     rcases Nat.lt_or_ge j ρ.length with h1|h1
     ·exact h1
     ·rw[qhz h1]at hup;omega
    rw[qdc hj]at hup;cases T' with
    |r t i f=>
     simp only[TG.ob]at hup;rw[←hup]at ht;simp only[xu,qyq.2 (ba hj),cond_true]at ht;cases ht
    |o t=>
     simp only[TG.ob]at hup;subst hup;have hk:br kp j=true:=by
      refine jdj hkl hj ?_;simp only[xu]at ht;cases hm:qv4 ρ kp (ρ.getD j 0)with
      |false=>rfl
      |true=>rw[hm]at ht;cases ht
     obtain⟨k1,k2,k3⟩:=hkept j hj hk;refine⟨by show aj (vw H') _=_;rw[k1];exact hq',fun g o hg=>⟨by show σ' _=_;rw[k2];exact hg,fun cur e hh=> ?_⟩⟩;exact hc.ksz j g o hk (by rw[k3];exact hg) cur e hh
  ·cases T with
   |o t=>simp only[xu]at e;cases hm:qv4 ρ kp t<;>rw[hm]at e<;>cases e
   |r t i f=>simp only[xu]at e;cases hm:inL t ρ<;>rw[hm]at e<;>cases e
 have hup:Mv (upA ρ n) ⟨w',fun b=>cn σc b∨qd9 ρ U σ b,qd9 ρ U σ,σc,aj (vw outs)⟩ (gr U (vw H') w' σ'):=by
  refine⟨Nat.le_refl _,fun b _ hx hx' => ?_,fun b _ _ hu hu' =>hu (.inl hu'),fun b _ _=>rfl,fun T T' q ht hq=> ?_,fun T fr u xs q e=> ?_⟩
  ·obtain⟨T,o,hT⟩:=hx';rcases hcase T b o hT with⟨j,_,e⟩|⟨hdn,e⟩
   ·exact hx (.inl ⟨_,o,e⟩)
   ·exact hx (.inr (hstay T b o hdn e).1)
  ·have e:T' =T.at (upN ρ n T.ob):=by
    cases T with
    |o j=>rcases ht with⟨ht,_⟩|ht<;>simp only[upA]at ht<;>cases ht<;>rfl
    |r j i f=>rcases ht with⟨ht,_⟩|ht<;>simp only[upA]at ht<;>cases ht<;>rfl
   subst e;have hq' :aj (vw outs) T=some q:=hq;have hT:T.ob<outs.length:=by
    rcases Nat.lt_or_ge T.ob outs.length with h1|h1
    ·exact h1
    ·exfalso;cases T with
     |o j=>simp only[TG.ob]at h1;simp[aj,vw,List.getElem?_eq_none h1]at hq'
     |r j i f=>simp only[TG.ob]at h1;simp[aj,vw,List.getElem?_eq_none h1]at hq'
   refine⟨?_,fun g o hg=>⟨by show σ' _=_;rw[hσu T hT];exact hg,fun cur e hh=>⟨cur,hh,rfl⟩⟩⟩;show aj (vw H') _=_;simp only[aj,hVu T hT,Option.map_map];rw[←hq'];rfl
  ·cases T with
   |o j=>simp only[upA]at e;cases e
   |r j i f=>simp only[upA]at e;cases e
 have hres:∀A u,A.fresh=true→VR (gr (qd9 ρ U σ) (vw outs) w' σc) A u→VR (gr U (vw H') w' σ') (A.sb (upA ρ n)) u:=by
  intro A u hf hu;exact VR.mv hup A u (VR.wide (G:=gr (qd9 ρ U σ) (vw outs) w' σc) (X' :=fun b=>cn σc b∨qd9 ρ U σ b) (fun b hb=>hb) A u hf hu)
 refine⟨σ',?_,hres res v hfv hv⟩;have hS:(s.aps (qdt n ρ kp outs)).S=sbS (xu ρ kp) s.S:=jvt s.S s.H n ρ kp outs;show ARel U w0 σ0 K N (bq (s.aps (qdt n ρ kp outs)).S) (vw (s.aps (qdt n ρ kp outs)).H) a w' σ';rw[hS,hH'];refine ARel.go hr hmv (fun t=>ez _ _ _) ⟨fun T T' g o o' h1 h2=> ?_,fun T p hp=> ?_,fun T v hv=> ?_,fun T g o hT=> ?_,hc.os.trans h.os,hc.tape.trans h.tape,hc.output.trans h.output,Nat.le_trans h.size hc.size,fun b hb hnb=> ?_,fun t ht=> ?_,fun t g o ht hg cur e hcur=> ?_,h.ulow,h.tb0⟩
 ·rcases hcase T g o h1 with⟨j,hj,e⟩|⟨hj,e⟩<;>rcases hcase T' g o' h2 with⟨j',hj',e'⟩|⟨hj',e'⟩
  ·have e3:=hc.inj _ _ _ _ _ e e';have ej:j=j' :=by have:=congrArg TG.ob e3;simpa only[TG.at_ob]using this
   subst ej;exact TG.at_inj e3 ((qf1 hj).2.symm.trans (qf1 hj').2)
  ·exact absurd (hstay T' g o' hj' e').1 (hc.own _ _ _ e).1
  ·exact absurd (hstay T g o hj e).1 (hc.own _ _ _ e').1
  ·exact h.inj _ _ _ _ _ e e'
 ·obtain⟨g,o⟩:=p;rcases hcase T g o hp with⟨j,hj,e⟩|⟨hj,e⟩
  ·obtain⟨v0,hv0⟩:=hc.dom _ _ e;obtain⟨hjL,hju⟩:=qf1 hj;have:=hVu (T.at j) (by rw[TG.at_ob];exact hjL);rw[TG.at_ob,TG.at_at,hju,TG.at_self,hv0]at this;exact⟨_,this⟩
  ·obtain⟨v0,hv0⟩:=h.dom _ _ e;have:=hVe T hj;rw[hv0]at this;exact⟨_,this⟩
 ·cases hj:dn ρ n outs.length T.ob with
  |some j=>
   obtain⟨hjL,hju⟩:=qf1 hj;have e1:=hVu (T.at j) (by rw[TG.at_ob];exact hjL);rw[TG.at_ob,TG.at_at,hju,TG.at_self,hv]at e1;cases hq:vw outs (T.at j)with
   |none=>rw[hq]at e1;cases e1
   |some v0=>
    rw[hq]at e1;simp only[Option.map_some,Option.some.injEq]at e1;subst e1;rw[hσs T j hj];have ho:=hc.obj _ v0 hq;cases hp:σc (T.at j)with
    |none=>rw[hp]at ho;exact ho
    |some p=>
     rw[hp]at ho;obtain⟨g,o⟩:=p;rcases ho with⟨hp0,cur,c,h1,h2,h3,h4⟩|⟨h1,h2,es,k,hh,hm⟩
     ·refine .inl ⟨hp0,cur,c,h1,h2,h3,fun i f hi hf=> ?_⟩;obtain⟨u,hu,h5,hV⟩:=h4 i f hi hf;exact⟨u,hu,h5,hres _ u (jkc hfr hq i f) hV⟩
     ·exact .inr ⟨h1,h2,es,k,hh,hm.sb (fun _ _=>rfl) fun i u hV=>hres _ u (jkc hfr hq i 1) hV⟩
  |none=>
   rw[hVe T hj]at hv;cases hq:vw s.H T with
   |none=>rw[hq]at hv;cases hv
   |some v0=>
    rw[hq]at hv;simp only[Option.map_some,Option.some.injEq]at hv;subst hv;rw[hσe T hj];exact(h.obj T v0 hq).mv hmv (fun g o hp=>(hstay T g o hj hp).2) rfl rfl rfl (fun i f _ _ u hu=>VR.mv hmv _ u hu) (fun _ _=>HZ.of hmv fun _ _=>rfl)
 ·rcases hcase T g o hT with⟨j,hj,e⟩|⟨hj,e⟩
  ·obtain⟨h1,h2⟩:=hc.own _ _ _ e;refine⟨fun hu=>h1 (.inl hu),?_⟩;rcases h2 with h2|⟨T',o',h2⟩
   ·exact .inl (Nat.le_trans h.size h2)
   ·obtain⟨_,h3⟩:=hpull T' _ h2;exact(h.own _ _ _ h3).2
  ·exact h.own _ _ _ e
 ·refine(hc.blk b (Nat.lt_of_lt_of_le hb h.size) fun T o e=> ?_).trans (h.blk b hb hnb);obtain⟨_,h3⟩:=hpull T _ e;rcases(h.own _ _ _ h3).2 with hge|⟨T',o',e'⟩
  ·omega
  ·exact hnb T' o' e'
 ·cases hj:dn ρ n outs.length t with
  |none=>rw[hσe (.o t) hj];exact h.keep t ht
  |some j=>
   obtain⟨hjL,hju⟩:=qf1 hj;have hj2:j<ρ.length:=by
    rcases Nat.lt_or_ge j ρ.length with h1|h1
    ·exact h1
    ·rw[qhz h1]at hju;rw[hn t (by omega)]at ht;cases ht
   rw[qdc hj2]at hju;subst hju;have hk0:br kp0 (ρ.getD j 0)=true:=by
    cases hb:br kp0 (ρ.getD j 0)with
    |true=>rfl
    |false=>rw[hK _ hb]at ht;cases ht
   rw[(hkept j hj2 (q1p hkeep hkl hj2 hk0)).2.1];exact h.keep _ ht
 ·obtain⟨cur1,h1,h2⟩:=h.ksz t g o ht hg cur e hcur;have hg' :σ (.o t)=some (g,o):=by rw[h.keep t ht];exact hg
  cases hj:dn ρ n outs.length t with
  |none=>exact⟨cur1,by rw[(hstay (.o t) g o hj hg').2];exact h1,h2⟩
  |some j=>
   obtain⟨hjL,hju⟩:=qf1 hj;have hj2:j<ρ.length:=by
    rcases Nat.lt_or_ge j ρ.length with h1|h1
    ·exact h1
    ·rw[qhz h1]at hju;rw[hn t (by omega)]at ht;cases ht
   rw[qdc hj2]at hju;subst hju;have hk0:br kp0 (ρ.getD j 0)=true:=by
    cases hb:br kp0 (ρ.getD j 0)with
    |true=>rfl
    |false=>rw[hK _ hb]at ht;cases ht
   have hk:=q1p hkeep hkl hj2 hk0;obtain⟨cur2,h3,h4⟩:=hc.ksz j g o hk (by rw[(hkept j hj2 hk).2.2];exact hg') cur1 e h1;exact⟨cur2,h3,h4.trans h2⟩
end
end Go.K
namespace Go.K
open Go.M Go.RowKit
variable {F : Nat → Prop}
section
variable {U : Nat → Prop} {w0 : World} {σ0 : Pl} {K : Nat → Bool} {N : Nat} {P : Program} {R Rf : Type}
structure CtxOK (P : Program) (X : Ctx Rf) : Prop where
 fits : c9 P X.tt
 mdl : ∀ f M, M ∈ X.Γ f → MdlOK P f M
theorem fj.map{G:Gr}{e:Operand→TV}{a:Act}:∀{l:List Operand},(∀x∈l,VR G (e x).gt (a.eval x))→fj G (l.map fun x=>(e x).gt) (l.map a.eval)
 |[],_=>rfl
 |x::l,h=>⟨_,_,rfl,h x List.mem_cons_self,fj.map fun y hy=>h y (List.mem_cons_of_mem _ hy)⟩
theorem fj.vAps{G G' :Gr}{δ:List St}(h:∀A v,VR G A v→VR G' (vAps A δ) v):∀(cs:List TV) (l:List Value),fj G cs l→fj G' (jat cs δ) l
 |[],_,hl=>hl
 |A::cs,l,hl=>by
  obtain⟨u,r,rfl,h1,h2⟩:=hl;exact⟨u,r,rfl,h A u h1,fj.vAps h cs r h2⟩
theorem jd8(δ:List St):∀(a b:List TV),jat (a++b) δ=jat a δ++jat b δ
 |[],_=>rfl
 |_::a,b=>by simp[jat,jd8 δ a b]
theorem q1x:∀(l:List TOb) (n i:Nat),i<l.length→∃o,St.new (n+i) o∈qza n l
 |[],n,i,h=>by simp at h
 |o::l,n,i,h=>by
  cases i with
  |zero=>exact⟨o,List.mem_cons_self⟩
  |succ i=>
   obtain⟨o',h'⟩:=q1x l (n+1) i (by simpa using h);exact⟨o',List.mem_cons_of_mem _ (by rw[show n+(i+1)=n+1+i by omega];exact h')⟩
theorem jpb{n:Nat}{ρ:List Nat}{kp:List Bool}{outs:List TOb}{j:Nat}(h1:ρ.length≤j)(h2:j<outs.length):∃o,St.new (upN ρ n j) o∈qdt n ρ kp outs:=by
 obtain⟨o,h⟩:=q1x (ci (upA ρ n) (outs.drop ρ.length)) n (j-ρ.length) (by rw[ck,List.length_drop];omega);exact⟨o,List.mem_cons_of_mem _ (List.mem_append_right _ (by rw[qhz h1];exact h))⟩
theorem jul:∀(S:List (Nat×TV)),sbS (fun _=> .id) S=S
 |[]=>rfl
 |(a,v)::l=>by simp only[sbS,TV.sb_id,jul l]
theorem TOb.sb_id(o:TOb):o.sb (fun _=> .id)=o:=by cases o<;>simp[TOb.sb,TV.sbL_id]
theorem juk:∀(H:List TOb),ci (fun _=> .id) H=H
 |[]=>rfl
 |o::l=>by simp only[ci,TOb.sb_id,juk l]
theorem jpa(s:TS)(n:Nat)(ρ:List Nat)(kp:List Bool)(outs:List TOb):s.aps (jkv n ρ kp outs)=s.aps (qdt n ρ kp outs):=by
 cases ρ with
 |cons a ρ=>rfl
 |nil=>
  have e:xu [] kp=fun _=> .id:=by
   funext T;cases T<;>rfl
  have e2:s.ap (.sb (xu [] kp))=s:=by
   rw[e];simp only[TS.ap,sAp,hAp,jul,juk]
  show _=(s.ap (.sb (xu [] kp))).aps _;rw[e2];rfl
theorem jkw{n:Nat}{ρ:List Nat}{kp:List Bool}{outs:List TOb}{j:Nat}(h1:ρ.length≤j)(h2:j<outs.length):∃o,St.new (upN ρ n j) o∈jkv n ρ kp outs:=by
 cases ρ with
 |cons a ρ=>exact jpb h1 h2
 |nil=>
  obtain⟨o,h⟩:=q1x (ci (upA [] n) outs) n j (by rw[ck];exact h2);exact⟨o,by rw[qhz h1];exact h⟩
def Ent(P:Program)(a:Act)(w:World)(o:Oper)(args:Array Operand)(fid:FuncId)(caps:List Value):Prop:=q64 P fid→(execOp a.eval o).run P w= .ok (.enter fid ((args.toList.map a.eval)++caps).toArray) w
theorem j4g{o:Oper}{a:Act}{w:World}{f:Operand}{args:Array Operand}{ts:Array TypeId}(ho:o.op= .call ⟨.value f,args,ts⟩){g:FuncId}{l:List Value}(hv:a.eval f= .func (.func g) #[] l.toArray):Ent P a w o args g l:=by
 intro hc;unfold execOp;simp only[ho,resolve,Sem.run_bind,hv,Deferred.ofValue,Sem.run_pure,Result.andThen_ok,invoke];rw[qhl hc];simp
theorem j4f{o:Oper}{a:Act}{w:World}{f:Operand}{args:Array Operand}{ts:Array TypeId}(ho:o.op= .call ⟨.value f,args,ts⟩){g:FuncId}{l:List Value}(hv:a.eval f= .func (.func g) l.toArray #[])(ha:args.toList=[]):Ent P a w o args g l:=by
 intro hc;have:args= #[]:=Array.toList_eq_nil_iff.1 ha;subst this;unfold execOp;simp only[ho,resolve,Sem.run_bind,hv,Deferred.ofValue,Sem.run_pure,Result.andThen_ok,invoke];rw[qhl hc];simp
theorem jsn{o:Oper}{a:Act}{w:World}{f:Operand}{args:Array Operand}{ts:Array TypeId}(ho:o.op= .call ⟨.value f,args,ts⟩){fid:FuncId}{l:List Value}(hv:a.eval f=fnV fid l):
  (Nat.blt fid qpy=true→Ent P a w o args fid l)∧(Nat.blt fid qpy=false→args.toList=[]→Ent P a w o args (fid-qpy) l):=
 ⟨fun hb=>j4g ho (hv.trans (by rw[fnV,hb,cond_true])),fun hb ha=>j4f ho (hv.trans (by rw[fnV,hb,cond_false])) ha⟩
theorem jeu{X:Ctx Rf}{o:Oper}{s:TS}{a:Act}{w:World}{σ:Pl}(hr:c7 U w0 σ0 K N s a w σ){Hv:List TOb}(hl:HLe F Hv s.H)(hK:∀t,br X.kp t=false→K t=false)(hn:∀t,Hv.length≤t→K t=false){k:List St→TV→Option R}{r:R}(hnew:∀δ v,k δ v=some r→∀t o,St.new t o∈δ→F t){args:Array Operand}{fid:FuncId}{caps vs:List TV}
  (hf:∃caps',Ent P a w o args fid caps' ∧fj (gr U (vw s.H) w σ) caps caps') (ha:fj (gr U (vw s.H) w σ) vs (args.toList.map a.eval)):∀(l:List Mdl),(∀M∈l,MdlOK P fid M)→qw5 X l (vs++caps) Hv k=some r→ot P U w0 σ0 K N o s a w k r
 |[],_,hk=>by simp[qw5]at hk
 |M::l,hM,hk=>by
  unfold qw5 at hk;split at hk
  ·rename_i aa ρ bs hdec;obtain⟨hb,hk⟩:=ai hk;simp only[Bool.and_eq_true]at hb;obtain⟨⟨⟨⟨hdis,hall⟩,hlent⟩,hkeep⟩,hkl⟩:=hb;have hok:=hM M List.mem_cons_self;cases hm:M.m aa with
   |none=>rw[hm]at hk;cases hk
   |some b=>
    rw[hm]at hk;obtain⟨hlens,hk⟩:=bv (show ckL _ _=some r from hok.cs _ _ _ _ hk);obtain⟨caps',hfv,hcaps⟩:=hf;obtain⟨hHR,hargs⟩:=hok.dec _ _ _ _ _ _ ⟨hl.at_,fun _ _ hf=>hf.elim,hl.len⟩ hdec hdis hall hlent U w0 σ0 K w σ hr.hr;have hvs:=hargs _ (fj.app ha hcaps);obtain⟨hfr1,hfr2⟩:=hok.fresh aa b hm;refine⟨_,_,hk,fun Q KK hKK=> ?_⟩;have hrun:=hfv hok.fn;unfold Oper.wp;rw[hrun];simp only[Oper.upon];refine(hok.run aa b hm _ w _ hHR _ hvs).mono ?_;rintro e w' ⟨v,σc,rfl,hc,hv⟩;obtain⟨σ',hr',hv'⟩:=j0b hr hl hK hn hdis hall hkeep (aw hkl) hlens hfr2 hfr1 (fun j h1 h2=>(jkw h1 h2).elim fun o ho=>hnew _ _ hk _ o ho) hc hv;rw[←jpa]at hr' hv';exact hKK _ _ _ (hr'.put o.dst hv')
  ·exact jeu hr hl hK hn hnew hf ha l (fun M hM' =>hM M (List.mem_cons_of_mem _ hM')) hk
theorem Low.ofY{w:World}{Y Y' :Nat→Prop}(h:∀b,b<w.heap.size→¬Y b→¬Y' b):Low w Y w Y' :=⟨Nat.le_refl _,h,fun _ _ _=>rfl⟩
mutual
theorem VR.up{V:TG→Option Vw}{w:World}{σ:Pl}:∀(A:TV) (v:Value),VR (gr U V w σ) A v→VR (gr (cn σ) (vw []) w (fun _=>none)) A.up v
 | .any,_,_=>trivial
 | .int k n,v,h=>h
 | .bool b,v,h=>h
 | .val u,v,h=>h
 | .e0,v,h=>h
 | .sl fr t xs,v,h=>Ty.C_low (Low.ofY (by
   rintro b _ hb (⟨T,o,hT⟩|⟨_,hY⟩)
   ·cases hT
   ·exact hb (.inl hY))) (.slice t) xs 0 v h
 | .rptr fr t xs i f,v,h=>by
  obtain⟨b,o,rfl,hr⟩:=h;refine⟨b,o,rfl,hr.low (Low.ofY ?_)⟩;rintro b _ hb (⟨T,o,hT⟩|⟨_,hY⟩)
  ·cases hT
  ·exact hb (.inl hY)
 | .own _,_,_=>trivial
 | .ownS _ _ _,_,_=>trivial
 | .ptr _ _ _,_,_=>trivial
 | .mp _,_,_=>trivial
 | .dm fr kt vt es,v,h=>qvk.low (Low.ofY (by
   rintro b _ hb (⟨T,o,hT⟩|⟨_,hY⟩)
   ·cases hT
   ·exact hb (.inl hY))) h
 | .fn f cs,v,h=>by
  obtain⟨l,hl,hc⟩:=h;exact⟨l,hl,fj.up cs l hc⟩
 | .agg cs,v,h=>by
  obtain⟨l,hl,hc,h1⟩:=h;exact⟨l,hl,fj.up cs l hc,h1⟩
 | .tup cs,v,h=>by
  obtain⟨l,hl,hc⟩:=h;exact⟨l,hl,fj.up cs l hc⟩
 | .cond c a,v,h=>by
  unfold TV.up;unfold VR at h⊢;split
  ·rename_i hc;rw[if_pos hc]at h;exact VR.up a v h
  ·rename_i hc;rw[if_neg hc]at h;exact h
 | .nl _ a,v,h=>⟨VR.up a v h.1,h.2⟩
theorem fj.up{V:TG→Option Vw}{w:World}{σ:Pl}:∀(cs:List TV) (l:List Value),fj (gr U V w σ) cs l→fj (gr (cn σ) (vw []) w (fun _=>none)) (TV.upL cs) l
 |[],l,h=>h
 |A::cs,l,h=>by
  obtain⟨u,r,rfl,h1,h2⟩:=h;exact⟨u,r,rfl,VR.up A u h1,fj.up cs r h2⟩
end
mutual
theorem VR.dw{V V' :TG→Option Vw}{w:World}{σ σc:Pl}{U' :Nat→Prop}(hU:∀b,cn σ b→U' b):∀(A:TV) (v:Value),A.fresh=true→VR (gr U' V' w σc) A v→VR (gr U V w σ) A.dw v
 | .any,_,_,_=>trivial
 | .int k n,v,_,h=>h
 | .bool b,v,_,h=>h
 | .val u,v,_,h=>h
 | .e0,v,_,h=>h
 | .sl fr t xs,v,hf,h=>by
  have hf:fr=true:=hf;subst hf;refine Ty.C_low (Low.ofY ?_) (.slice t) xs 0 v h;rintro b _ hb (hY|⟨hY,_⟩)
  ·exact hb (.inr ⟨rfl,hU b hY⟩)
  ·cases hY
 | .rptr fr t xs i f,v,hf,h=>by
  have hf:fr=true:=hf;subst hf;obtain⟨b,o,rfl,hr⟩:=h;refine⟨b,o,rfl,hr.low (Low.ofY ?_)⟩;rintro b _ hb (hY|⟨hY,_⟩)
  ·exact hb (.inr ⟨rfl,hU b hY⟩)
  ·cases hY
 | .own _,_,_,_=>trivial
 | .ownS _ _ _,_,_,_=>trivial
 | .ptr _ _ _,_,_,_=>trivial
 | .mp _,_,_,_=>trivial
 | .dm fr kt vt es,v,hf,h=>by
  have hf:fr=true:=hf;subst hf;refine qvk.low (Low.ofY ?_) h;rintro b _ hb (hY|⟨hY,_⟩)
  ·exact hb (.inr ⟨rfl,hU b hY⟩)
  ·cases hY
 | .fn f cs,v,hf,h=>by
  obtain⟨l,hl,hc⟩:=h;exact⟨l,hl,fj.dw hU cs l hf hc⟩
 | .agg cs,v,hf,h=>by
  obtain⟨l,hl,hc,h1⟩:=h;exact⟨l,hl,fj.dw hU cs l hf hc,h1⟩
 | .tup cs,v,hf,h=>by
  obtain⟨l,hl,hc⟩:=h;exact⟨l,hl,fj.dw hU cs l hf hc⟩
 | .cond c a,v,hf,h=>by
  unfold TV.dw;unfold VR at h⊢;split
  ·rename_i hc;rw[if_pos hc]at h;exact VR.dw hU a v hf h
  ·rename_i hc;rw[if_neg hc]at h;exact h
 | .nl _ a,v,hf,h=>⟨VR.dw hU a v hf h.1,h.2⟩
theorem fj.dw{V V' :TG→Option Vw}{w:World}{σ σc:Pl}{U' :Nat→Prop}(hU:∀b,cn σ b→U' b):∀(cs:List TV) (l:List Value),TV.freshL cs=true→fj (gr U' V' w σc) cs l→fj (gr U V w σ) (TV.dwL cs) l
 |[],l,_,h=>h
 |A::cs,l,hf,h=>by
  simp only[TV.freshL,Bool.and_eq_true]at hf;obtain⟨u,r,rfl,h1,h2⟩:=h;exact⟨u,r,rfl,VR.dw hU A u hf.1 h1,fj.dw hU cs r hf.2 h2⟩
end
theorem js3{s:TS}{a:Act}{w w' :World}{σ:Pl}(hr:c7 U w0 σ0 K N s a w σ)(hos:w'.os=w.os)(htape:w'.tape=w.tape)(hout:w'.output=w.output)(hsize:w.heap.size≤w'.heap.size)(hblk:∀b,b<w.heap.size→w'.heap[b]? =w.heap[b]?):
  c7 U w0 σ0 K N s a w' σ:=by
 have hlt:∀{T:TG} {g o:Nat},σ T=some (g,o)→g<w.heap.size:=fun hσ=>hr.hr.lt hσ
 have hV:∀T,vw s.H T=(vw s.H T).map (Vw.sb fun _=> .id):=by
  intro T;cases vw s.H T with
  |none=>rfl
  |some v=>
   have:Vw.sb (fun _=> .id) v=v:=by
    cases v;simp[Vw.sb,TV.sb_id]
   rw[Option.map_some,this]
 have m:Mv (fun _=> .id) (gr U (vw s.H) w σ) (gr U (vw s.H) w' σ):=by
  refine⟨hsize,fun b _ hb=>hb,fun b _ _ hb=>hb,fun b hb _=>hblk b hb,fun T T' q ht hq=> ?_,fun T fr u xs q ht _=>by cases ht⟩;rcases ht with⟨_,rfl⟩|ht
  ·exact⟨hq,fun g o hg=>⟨hg,fun cur e hh=>⟨cur,(hblk g (hlt hg)).trans hh,rfl⟩⟩⟩
  ·cases ht
 refine hr.go m (fun t=>(TV.sb_id _).symm) ?_;exact hr.hr.upd (fun _=>False) m (fun T _=>hV T) (fun _ _=>rfl) (fun T g o _ hσ=>hblk g (hlt hσ)) (fun _ _ h=>h.elim) (fun _ _ h=>h.elim) (fun _ _ _ h=>h.elim) hr.hr.inj hos htape hout (fun _ _ h=>h.elim) (fun _ _ _ _ h=>h.elim)
theorem jhq{o:Oper}{s:TS}{a:Act}{w:World}{σ:Pl}(hr:c7 U w0 σ0 K N s a w σ){k:List St→TV→Option R}{r:R}{args:Array Operand}{fid:FuncId}{caps vs:List TV}
  (hf:∃caps',Ent P a w o args fid caps' ∧fj (gr U (vw s.H) w σ) caps caps') (ha:fj (gr U (vw s.H) w σ) vs (args.toList.map a.eval)):∀(l:List Mdl),(∀M∈l,MdlOK P fid M)→q3q l (vs++caps) k=some r→ot P U w0 σ0 K N o s a w k r
 |[],_,hk=>by simp[q3q]at hk
 |M::l,hM,hk=>by
  unfold q3q at hk;split at hk
  ·rename_i aa hdec;have hok:=hM M List.mem_cons_self;cases hm:M.m aa with
   |none=>rw[hm]at hk;cases hk
   |some b=>
    rw[hm]at hk;have hk:(match M.outs aa b with|[]=>k [] (M.res aa b).dw|_=>none)=some r:=hk;split at hk
    ·rename_i houts;obtain⟨caps',hfv,hcaps⟩:=hf;have hempty:∀T:TG,vw [] T=none:=fun T=>by cases T<;>simp[vw]
     have h0:HR (cn σ) w (fun _=>none) (fun _=>false) (vw []) w (fun _=>none):=by
      refine⟨(fun _ _ _ _ _ h=>by cases h),(fun _ _ h=>by cases h),fun T v h=> ?_,(fun _ _ _ h=>by cases h),rfl,rfl,rfl,Nat.le_refl _,fun _ _ _=>rfl,(fun _ h=>by cases h),(fun _ _ _ h=>by cases h),fun b ⟨T,o,hT⟩=>hr.hr.lt hT,fun g c hc=>⟨(hr.hr.tb g c hc).1,fun _ _ h=>by cases h⟩⟩;rw[hempty]at h;cases h
     obtain⟨hHR,hargs⟩:=hok.dec _ _ _ _ _ _ (HLe.refl []) hdec rfl rfl rfl (cn σ) w (fun _=>none) (fun _=>false) w (fun _=>none) h0;have hvs:=hargs _ (fj.up _ _ (fj.app ha hcaps));obtain⟨hfr1,hfr2⟩:=hok.fresh aa b hm;refine⟨_,_,hk,fun Q KK hKK=> ?_⟩;have hrun:=hfv hok.fn;unfold Oper.wp;rw[hrun];simp only[Oper.upon];refine(hok.run aa b hm _ w _ hHR _ hvs).mono ?_;rintro e w' ⟨v,σc,rfl,hc,hv⟩;rw[houts]at hc hv;have hblk:∀b,b<w.heap.size→w'.heap[b]? =w.heap[b]? :=fun b hb=>hc.blk b hb fun T o h=>by
      unfold qls at h;split at h
      ·cases h
      ·cases h
     have hr' :=js3 hr hc.os hc.tape hc.output hc.size hblk;exact hKK _ _ _ (hr'.put o.dst (VR.dw (fun b hb=> .inl hb) _ _ hfr1 hv))
    ·cases hk
  ·exact jhq hr hf ha l (fun M hM' =>hM M (List.mem_cons_of_mem _ hM')) hk
theorem q8o{G:Gr}{A:TV}{v:Value}(hn:A.isNl=true)(h:VR G A v):q4u v:=by
 unfold TV.isNl at hn;split at hn
 ·exact h.2
 ·simp only[VR]at h;subst h;exact fun a c e=>by cases e;rfl
 ·cases hn
theorem jp1{G:Gr}{b:Bool}{A:TV}{v:Value}(hn:A.isN b=true)(h:VR G A v):jri (some b) v:=by
 cases b with
 |false=>exact q8o hn h
 |true=>
  have hn:A.isT=true:=hn;unfold TV.isT at hn;split at hn
  ·exact h.2
  ·cases hn
theorem jqg{G:Gr}{A:TV}{v:Value}(h:VR G A v):jri A.nlB v:=by
 unfold TV.nlB;split
 ·exact h.2
 ·simp only[VR]at h;subst h;exact fun a c e=>by cases e;rfl
 ·trivial
theorem jv3{X:Ctx Rf}(hX:CtxOK P X){o:Oper}{s:TS}{a:Act}{w:World}{σ:Pl}(hr:c7 U w0 σ0 K N s a w σ){Hv:List TOb}(hl:HLe F Hv s.H)(hK:∀t,br X.kp t=false→K t=false){e:Operand→TV}(he:∀x∈o.op.operands,VR (gr U (vw s.H) w σ) (e x) (a.eval x)){k:List St→TV→Option R}{r:R}(hnew:∀δ v,k δ v=some r→∀t o,St.new t o∈δ→F t)
  (hk:jsl X o.op e Hv k=some r):ot P U w0 σ0 K N o s a w k r:=by
 have hF:=hX.fits;unfold jsl at hk;have hkp:=(ai hk).1
 replace hk:=(ai hk).2
 replace hkp:=yq hkp
 have hn:∀t,Hv.length≤t→K t=false:=fun t ht=>hK t (by
  unfold br;rw[List.getD_eq_getElem?_getD,List.getElem?_eq_none (by omega)];rfl)
 have hn0:=hn _ (Nat.le_refl _);unfold jk2 at hk;split at hk
 ·rename_i t hop;split at hk
  ·rename_i x ht;have hb:=(ai hk).1
   replace hk:=(ai hk).2
   simp only[Bool.and_eq_true]at hb;exact jrq hF hr hl hn0 hnew hop ht (aw hb.1) hb.2 hk
  ·cases hk
 ·rename_i t x hop;split at hk
  ·rename_i ti ht;split at hk
   ·rename_i cs hc;have h1:=(bv hk).1
    replace hk:=(bv hk).2
    exact j0a hr hl hn0 hnew hop ((he x (by rw[hop];simp[Op.operands,Call.operands])).gt h1) hc hk
   ·cases hk
  ·cases hk
 ·rename_i t p x hop;split at hk
  ·rename_i ti ht;have h1:=(bv hk).1
   replace hk:=(bv hk).2
   obtain⟨h1,h2⟩:=gm.app h1;exact jux hF hr hl hK hop ht ((he p (by rw[hop];simp[Op.operands,Call.operands])).gt h1) ((he x (by rw[hop];simp[Op.operands,Call.operands])).gt h2) hk
  ·cases hk
 ·rename_i t l c hop;split at hk
  ·rename_i el b1 b2 z1 ht;split at hk
   ·rename_i u ei hel;split at hk
    ·rename_i k1 lv k2 cv hlv hcv;have h1:=(bv hk).1
     replace hk:=(bv hk).2
     obtain⟨h1,h2⟩:=gm.app h1;obtain⟨h2,h3⟩:=gm.app h2;have v1:=(he l (by rw[hop];simp[Op.operands,Call.operands])).gt h1;have v2:=(he c (by rw[hop];simp[Op.operands,Call.operands])).gt h2;rw[hlv]at v1;rw[hcv]at v2;exact jwm hF hr hl hn0 hnew hop ht hel v1 v2 (h3 _ List.mem_cons_self) hk
    ·cases hk
   ·cases hk
  ·cases hk
 ·rename_i t len ps hop;split at hk
  ·rename_i el b1 b2 z1 ht;split at hk
   ·rename_i ei hel;have hb:=(ai hk).1
    replace hk:=(ai hk).2
    simp only[Bool.and_eq_true]at hb;obtain⟨⟨⟨hb1,hb2⟩,hb3⟩,hb4⟩:=hb;split at hk
    ·rename_i δ hδ;split at hk
     ·rename_i L hL;have h1:=(bv hk).1
      replace hk:=(bv hk).2
      have hgo:(q0l U w0 σ0 K N s δ∧HLe F (ia Hv δ) (ia s.H δ))∧(ia Hv δ).length=Hv.length:=by
       unfold bsD at hδ;cases hdt:X.dt with
       |true=>rw[hdt]at hδ;exact⟨qga hK _ Hv s δ hl hδ,qm1 _ _ _ hδ⟩
       |false=>rw[hdt]at hδ;cases hδ;exact⟨⟨q0l.nil s,hl⟩,rfl⟩
      obtain⟨⟨hg,hl1⟩,hlen⟩:=hgo;obtain⟨σ1,hr1,hmv⟩:=hg a w σ hr;rw[←hlen]at hk hn0;have hd:ot P U w0 σ0 K N o (s.aps δ) a w (fun δ' v=>k (δ++δ') v) r:=by
       refine jrz (s:=s.aps δ) (Hv:=ia Hv δ) (e:=fun x=>vAps (e x).gt δ) hF hr1 (by rw[qki];exact hl1) hn0 (fun δ' v h t' o' hm=>hnew _ _ h t' o' (List.mem_append_right _ hm)) rfl hop ht hel hL (fun p hp=> ?_) (aw hb1) hb2 (cz hb3) (yq hb4) hk;exact hmv _ _ ((he p.2 (by rw[hop];simp only[Op.operands];exact List.mem_toArray.2 (List.mem_map.2 ⟨p,hp,rfl⟩))).gt (jge h1 p.2 (List.mem_map.2 ⟨p,hp,rfl⟩)))
      obtain⟨δ',v,h2,h3⟩:=hd;exact⟨δ++δ',v,h2,fun Q KK h=>h3 Q KK (by rw[←qfx];exact h)⟩
     ·cases hk
    ·cases hk
   ·cases hk
  ·cases hk
 ·rename_i t hop;refine ji0 hr hl hn0 hnew (fun kt et ht=> ?_) hk;unfold execOp;simp[hop,Instr.makeMap,newObj];rfl
 ·rename_i t y hop;split at hk
  ·rename_i ik n hy;have h1:=(bv hk).1
   replace hk:=(bv hk).2
   have v1:=(he y (by rw[hop];simp[Op.operands,Call.operands])).gt h1;rw[hy]at v1;have v1:a.eval y= .int ik n:=v1;refine ji0 hr hl hn0 hnew (fun kt et ⟨a1,b1,z1,ht⟩=> ?_) hk;unfold execOp;simp[hop,Instr.makeMap,newObj,v1,asInt,asIntOf,run_underlying (kz hF ht)];rfl
  ·cases hk
 ·rename_i t m key hop;have h1:=(bv hk).1
  replace hk:=(bv hk).2
  obtain⟨h1,h2⟩:=gm.app h1;exact jtn hF hr hl rfl hop ((he m (by rw[hop];simp[Op.operands,Call.operands])).gt h1) ((he key (by rw[hop];simp[Op.operands,Call.operands])).gt h2) hk
 ·rename_i t m key x hop;have h1:=(bv hk).1
  replace hk:=(bv hk).2
  obtain⟨h1,h2⟩:=gm.app h1;obtain⟨h2,h3⟩:=gm.app h2;refine jnr hF hr hl rfl hK (fun w' hw=> ?_) ((he m (by rw[hop];simp[Op.operands,Call.operands])).gt h1) ((he key (by rw[hop];simp[Op.operands,Call.operands])).gt h2) ((he x (by rw[hop];simp[Op.operands,Call.operands])).gt h3) hk;unfold execOp;simp[hop,hw]
 ·rename_i t m key x hop;have h1:=(bv hk).1
  replace hk:=(bv hk).2
  obtain⟨h1,h2⟩:=gm.app h1;obtain⟨h2,h3⟩:=gm.app h2;refine jnr hF hr hl rfl hK (fun w' hw=> ?_) ((he m (by rw[hop];simp[Op.operands,Call.operands])).gt h1) ((he key (by rw[hop];simp[Op.operands,Call.operands])).gt h2) ((he x (by rw[hop];simp[Op.operands,Call.operands])).gt h3) hk;unfold execOp;simp[hop,hw]
 ·rename_i d x t t' hop;split at hk
  ·rename_i el b1 b2 z1 ht;split at hk
   ·rename_i u ei hel;have h1:=(bv hk).1
    replace hk:=(bv hk).2
    obtain⟨h1,h2⟩:=gm.app h1;exact jvv hF hr hl hK hop ht hel ((he d (by rw[hop];simp[Op.operands,Call.operands])).gt h1) ((he x (by rw[hop];simp[Op.operands,Call.operands])).gt h2) hk
   ·cases hk
  ·cases hk
 ·rename_i d t hop;split at hk
  ·rename_i el b1 b2 z1 ht;split at hk
   ·rename_i u ei hel;have h1:=(bv hk).1
    replace hk:=(bv hk).2
    exact jr7 hF hr hl hop ht hel ((he d (by rw[hop];simp[Op.operands,Call.operands])).gt h1) hk
   ·cases hk
  ·cases hk
 ·rename_i m key t t2 hop;have h1:=(bv hk).1
  replace hk:=(bv hk).2
  obtain⟨h1,h2⟩:=gm.app h1;exact jwo hF hr hl rfl hop ((he m (by rw[hop];simp[Op.operands,Call.operands])).gt h1) ((he key (by rw[hop];simp[Op.operands,Call.operands])).gt h2) hk
 ·rename_i d x t t' hop;cases hb:Nat.beq t t' with
  |false=>
   rw[hb]at hk;exact jvl hF hr hl rfl (hn _ (Nat.le_refl _)) hnew hop (he d (by rw[hop];simp[Op.operands,Call.operands])) (he x (by rw[hop];simp[Op.operands,Call.operands])) hk
  |true=>
  rw[hb]at hk;simp only[cond_true]at hk
  replace hb:=aw hb
  subst hb;split at hk
  ·rename_i el b1 b2 z1 ht;split at hk
   ·rename_i u ei hel;have h1:=(bv hk).1
    replace hk:=(bv hk).2
    obtain⟨h1,h2⟩:=gm.app h1;exact jo7 hF hr hl hK hn hnew hop ht hel ((he d (by rw[hop];simp[Op.operands,Call.operands])).gt h1) ((he x (by rw[hop];simp[Op.operands,Call.operands])).gt h2) (fun hn=>q8o hn (he d (by rw[hop];simp[Op.operands,Call.operands]))) hk
   ·cases hk
  ·cases hk
 ·rename_i f args ts hop;split at hk
  ·rename_i fid caps hfv;have key:∀g,(∀l,a.eval f=fnV fid l→Ent P a w o args g l)→ckL ((e f).nd++nds e args.toList) (q7d X (X.Γ g) ((args.toList.map fun x=>(e x).gt)++caps) Hv k)=some r→ot P U w0 σ0 K N o s a w k r:=by
    intro g hent hk;have h1:=(bv hk).1
    replace hk:=(bv hk).2
    obtain⟨h1,h2⟩:=gm.app h1;have v1:=(he f (by rw[hop];simp[Op.operands,Call.operands])).gt h1;rw[hfv]at v1;obtain⟨caps',hv1,hc1⟩:=v1;have v2:=fj.map fun x hx=>(he x (by rw[hop];simpa[Op.operands,Call.operands]using Or.inr hx)).gt (jge h2 x hx)
    unfold q7d at hk;cases hh:jfu (X.Γ g) ((args.toList.map fun x=>(e x).gt)++caps) Hv with
    |true=>
     rw[hh]at hk;exact jeu hr hl hK hn hnew ⟨caps',hent _ hv1,hc1⟩ v2 _ (fun M hM=>hX.mdl g M hM) hk
    |false=>
     rw[hh]at hk;cases hdt:X.dt with
     |false=>rw[hdt]at hk;exact jhq hr ⟨caps',hent _ hv1,hc1⟩ v2 _ (fun M hM=>hX.mdl g M hM) hk
     |true=>
      rw[hdt]at hk;simp only[cond_true,cond_false]at hk;unfold jr0 at hk;split at hk
      ·rename_i δ hδ;obtain⟨hg,hl1⟩:=qga hK _ Hv s δ hl hδ;have hlen:=qm1 _ _ _ hδ;obtain⟨σ1,hr1,hmv⟩:=hg a w σ hr;rw[jd8]at hk;obtain⟨δ',v,h2,h3⟩:=jeu (s:=s.aps δ) (Hv:=ia Hv δ) (k:=fun δ' v=>k (δ++δ') v) hr1 (by rw[qki];exact hl1) hK (by rw[hlen];exact hn) (fun δ' v h t' o' hm=>hnew _ _ h t' o' (List.mem_append_right _ hm)) ⟨caps',hent _ hv1,fj.vAps hmv _ _ hc1⟩ (fj.vAps hmv _ _ v2) _ (fun M hM=>hX.mdl g M hM) hk;exact⟨δ++δ',v,h2,fun Q KK h=>h3 Q KK (by rw[←qfx];exact h)⟩
      ·cases hk
   cases hb:Nat.blt fid qpy with
   |true=>rw[hb]at hk;exact key fid (fun l hl=>(jsn hop hl).1 hb) hk
   |false=>
    rw[hb]at hk;simp only[cond_false]at hk;split at hk
    ·rename_i hargs;exact key _ (fun l hl=>(jsn hop hl).2 hb hargs) hk
    ·cases hk
  ·cases hk
 ·cases hk
theorem q61{X:Ctx Rf}(hX:CtxOK P X){o:Oper}{s:TS}{a:Act}{w:World}{σ:Pl}(hr:c7 U w0 σ0 K N s a w σ){Hv:List TOb}(hl:HLe F Hv s.H)(hK:∀t,br X.kp t=false→K t=false){e:Operand→TV}(he:∀x∈o.op.operands,VR (gr U (vw s.H) w σ) (e x) (a.eval x)){k:List St→TV→Option R}{r:R}(hnew:∀δ v,k δ v=some r→∀t o,St.new t o∈δ→F t)
  (hk:qin X o.op e Hv k=some r):ot P U w0 σ0 K N o s a w k r:=by
 unfold qin at hk;split at hk
 ·rename_i cs v hp;have hC:=(bv hk).1
  replace hk:=(bv hk).2
  obtain⟨u,hrun,hv⟩:=jdr hX.fits hp hC (hl.sees hr.hr) he;exact ot.val (δ:=[]) hk hrun hr hv
 ·exact jv3 hX hr hl hK he hnew hk
theorem jq5{X:Ctx Rf}(hX:CtxOK P X){o:Oper}{s:TS}{a:Act}{w:World}{σ:Pl}(hr:c7 U w0 σ0 K N s a w σ){Hv:List TOb}(hS:Sees (gr U (vw s.H) w σ) Hv)(hld:us o.op=true){e:Operand→TV}(he:∀x∈o.op.operands,VR (gr U (vw s.H) w σ) (e x) (a.eval x)){k:List St→TV→Option R}{r:R}
  (hk:qin X o.op e Hv k=some r):ot P U w0 σ0 K N o s a w k r:=by
 unfold qin at hk;split at hk
 ·rename_i cs v hp;have hC:=(bv hk).1
  replace hk:=(bv hk).2
  obtain⟨u,hrun,hv⟩:=jdr hX.fits hp hC hS he;exact ot.val (δ:=[]) hk hrun hr hv
 ·exfalso;unfold jsl at hk;cases hb:Nat.ble X.kp.length Hv.length with
  |false=>rw[hb]at hk;cases hk
  |true=>
   rw[hb]at hk;cases hop:o.op<;>rw[hop]at hld hk<;>first|(cases hld;done)|(simp[jk2]at hk;done)
end
end Go.K
namespace Go.K
open Go.M
section
variable {R Rf : Type}
theorem fv{α β:Type}(c:Bool)(m:Option α)(f:α→Option β):ak c (m.bind f)=(ak c m).bind f:=by cases c<;>rfl
theorem fb{α β:Type}:∀(cs:List Bool) (m:Option α) (f:α→Option β),ckL cs (m.bind f)=(ckL cs m).bind f
 |[],m,f=>rfl
 |c::cs,m,f=>by simp only[ckL];rw[fb cs m f,fv]
theorem jag(H:List TOb)(tg:Nat)(i:Int)(f:Nat)(new:List TV)(k:List St→Option R):qwm H tg i f new k=(qwm H tg i f new some).bind k:=by
 unfold qwm;split
 ·split
  ·split
   ·rw[←fv];rfl
   ·rfl
  ·rfl
 ·rfl
theorem jma(X:Ctx Rf)(H:List TOb)(ty:TypeId)(its:List TypeId)(u:Ty)(xs:List u.den)(tg:Nat)(i:Int)(f:Nat)(v:TV)(k:List St→Option R):q20 X H ty its u xs tg i f v k=(q20 X H ty its u xs tg i f v some).bind k:=by
 unfold q20;split
 ·split
  ·cases(!Nat.beq _ tg&& !br X.kp _&&(_||_)&&Nat.beq _ _)with
   |false=>rfl
   |true=>
    simp only[cond_true];split
    ·rw[←fv];rfl
    ·rfl
  ·rfl
 ·cases(_&&jfz u&&Nat.beq f 0&&_)with
  |false=>rfl
  |true=>simp only[cond_true];rw[←fv];rfl
 ·split
  ·split
   ·rw[←fv];rfl
   ·rfl
  ·rfl
 ·split
  ·rfl
  ·split
   ·split
    ·rw[←fv];rfl
    ·rfl
   ·rfl
theorem cu{α β:Type}{c:Bool}{a b:Option β}{a' b' :Option α}{f:α→Option β}(h1:a=a'.bind f)(h2:b=b'.bind f):(bif c then a else b)=(bif c then a' else b').bind f:=by
 cases c
 ·exact h2
 ·exact h1
theorem jaf(X:Ctx Rf)(ti:TI)(H:List TOb)(tg:Nat)(i:Int)(f:Nat)(δ0:List St)(v:TV)(k:List St→Option R):qwl X ti H tg i f δ0 v k=(qwl X ti H tg i f δ0 v some).bind k:=by
 unfold qwl;split
 ·split
  ·rename_i δ _ _ new _;refine(jag _ _ _ _ _ _).trans ?_;rw[jag (k:=fun δ' =>some (δ0++(δ++δ')))];rw[Option.bind_assoc];rfl
  ·rfl
 ·rfl
theorem jah(X:Ctx Rf)(ti:TI)(p v:TV)(H:List TOb)(k:List St→Option R):qwn X ti p v H k=(qwn X ti p v H some).bind k:=by
 unfold qwn;split
 ·split
  ·split
   ·split
    ·refine cu ?_ rfl;split<;>rfl
    ·rfl
   ·rfl
  ·split
   ·exact jaf ..
   ·exact cu (jma ..) (cu (jaf ..) rfl)
   ·split
    ·exact cu (by rw[←fb];rfl) rfl
    ·rfl
   ·split
    ·exact cu (by rw[←fb];rfl) rfl
    ·rfl
  ·rfl
 ·split
  ·refine cu ?_ rfl;split
   ·split
    ·split
     ·split
      ·refine cu ?_ rfl;split
       ·rw[←fv];rfl
       ·rfl
      ·rfl
     ·rfl
    ·rfl
   ·rfl
  ·rfl
 ·rfl
abbrev rt:List St→TV→Option (List St×TV):=fun δ v=>some (δ,v)
abbrev un(k:List St→TV→Option R):List St×TV→Option R:=fun p=>k p.1 p.2
theorem jhc(X:Ctx Rf)(el:TypeId)(u:Ty)(ei:TI)(d:TV)(H:List TOb)(fr' :Bool)(ys:List u.den)(k:List St→TV→Option R):jo4 X el u ei d H fr' ys k=(jo4 X el u ei d H fr' ys rt).bind (un k):=by
 unfold jo4;split
 ·rw[←fv];rfl
 ·rw[←fv];rfl
 ·split
  ·split
   ·refine cu ?_ rfl;split
    ·rw[←fv];rfl
    ·exact cu (by rw[←fv];rfl) rfl
    ·rfl
   ·rfl
  ·rfl
 ·split
  ·split
   ·exact cu (by rw[←fv];rfl) rfl
   ·rfl
  ·rfl
 ·split
  ·split
   ·split
    ·refine cu ?_ rfl;split
     ·rw[←fv];rfl
     ·rfl
    ·rfl
   ·rfl
  ·split
   ·exact cu (by rw[←fb];rfl) rfl
   ·rfl
  ·rfl
 ·rfl
theorem jhd(X:Ctx Rf)(el:TypeId)(u:Ty)(ei:TI)(d:TV)(H:List TOb)(t2:Option Nat)(x:u.den)(k:List St→TV→Option R):jeh X el u ei d H t2 x k=(jeh X el u ei d H t2 x rt).bind (un k):=by
 unfold jeh;split
 ·split
  ·rw[←fv];rfl
  ·rw[←fv];rfl
 ·split
  ·split
   ·refine cu ?_ rfl;split
    ·rw[←fv];rfl
    ·exact cu (by rw[←fv];rfl) rfl
   ·rfl
  ·rfl
 ·rfl
theorem qmq(X:Ctx Rf)(el:TypeId)(u:Ty)(ei:TI)(d x:TV)(H:List TOb)(k:List St→TV→Option R):qmp X el u ei d x H k=(qmp X el u ei d x H rt).bind (un k):=by
 unfold qmp;split
 ·rename_i δ _ _ _;refine(jhc _ _ _ _ _ _ _ _ _).trans ?_;rw[jhc (k:=fun δ' v=>rt (δ++δ') v)];rw[Option.bind_assoc];rfl
 ·rfl
theorem jhe(X:Ctx Rf)(el:TypeId)(u:Ty)(ei:TI)(d x:TV)(H:List TOb)(k:List St→TV→Option R):jei X el u ei d x H k=(jei X el u ei d x H rt).bind (un k):=by
 unfold jei;split
 ·split
  ·refine cu ?_ (qmq ..);split
   ·exact jhd ..
   ·exact jhd ..
   ·exact qmq ..
  ·exact qmq ..
 ·exact qmq ..
theorem jo5(X:Ctx Rf)(el:TypeId)(u:Ty)(ei:TI)(d x:TV)(H:List TOb)(k:List St→TV→Option R)(f:TV→TV):jei X el u ei d x H (fun δ v=>k δ (f v))=(jei X el u ei d x H (fun δ v=>rt δ (f v))).bind (un k):=by
 rw[jhe (k:=fun δ v=>k δ (f v)),jhe (k:=fun δ v=>rt δ (f v)),Option.bind_assoc];rfl
theorem qtb(X:Ctx Rf)(args:List TV)(H:List TOb)(k:List St→TV→Option R):∀(l:List Mdl),qw5 X l args H k=(qw5 X l args H rt).bind (un k)
 |[]=>rfl
 |M::l=>by
  unfold qw5;split
  ·refine cu ?_ rfl;cases M.m _ with
   |none=>rfl
   |some b=>
    show M.cs b _=Option.bind (M.cs b _) _;rw[←M.csn];exact congrArg (M.cs b) (funext fun b=>by rw[←fb];rfl)
  ·exact qtb X args H k l
theorem jct(args:List TV)(k:List St→TV→Option R):∀(l:List Mdl),q3q l args k=(q3q l args rt).bind (un k)
 |[]=>rfl
 |M::l=>by
  unfold q3q;split
  ·rename_i a hd;cases M.m a with
   |none=>rfl
   |some b=>
    show(match M.outs a b with|[]=>k [] (M.res a b).dw|_=>none)=Option.bind (match M.outs a b with|[]=>rt [] (M.res a b).dw|_=>none) (un k);cases M.outs a b<;>rfl
  ·exact jct args k l
theorem jcu(X:Ctx Rf)(args:List TV)(H:List TOb)(k:List St→TV→Option R)(l:List Mdl):q7d X l args H k=(q7d X l args H rt).bind (un k):=by
 unfold q7d;cases jfu l args H with
 |true=>exact qtb X args H k l
 |false=>
  cases X.dt with
  |false=>exact jct args k l
  |true=>
   simp only[cond_true,cond_false];unfold jr0;split
   ·rename_i δ _;rw[qtb (k:=fun δ' v=>k (δ++δ') v),qtb (k:=fun δ' v=>rt (δ++δ') v),Option.bind_assoc];rfl
   ·rfl
theorem q84(X:Ctx Rf)(t:TypeId)(H:List TOb)(k:List St→TV→Option R):qv3 X t H k=(qv3 X t H rt).bind (un k):=by
 unfold qv3;split
 ·split
  ·split<;>rfl
  ·rfl
  ·rfl
 ·rfl
theorem jqe(X:Ctx Rf)(ki:TI)(H:List TOb)(tg:Nat)(ku u:Ty)(ety:TypeId)(es:List (ku.den×List u.den))(h:Option Nat)(key x:TV)(k:List St→TV→Option R):jdk X ki H tg ku u ety es h key x k=(jdk X ki H tg ku u ety es h key x rt).bind (un k):=by
 unfold jdk;split
 ·refine cu ?_ rfl;split
  ·exact cu (by rw[←fv];rfl) rfl
  ·split
   ·split
    ·exact cu (by rw[←fv];rfl) rfl
    ·rfl
   ·rfl
  ·rfl
 ·rfl
theorem jqc(X:Ctx Rf)(t:TypeId)(m key:TV)(H:List TOb)(k:List St→TV→Option R):jdi X t m key H k=(jdi X t m key H rt).bind (un k):=by
 unfold jdi;split
 ·split
  ·split
   ·split
    ·exact cu (by split<;>rfl) rfl
    ·rfl
   ·rfl
  ·rfl
 ·rfl
theorem jdl(X:Ctx Rf)(t:TypeId)(m key x:TV)(H:List TOb)(k:List St→TV→Option R):q85 X t m key x H k=(q85 X t m key x H rt).bind (un k):=by
 unfold q85;split
 ·split
  ·split
   ·split
    ·exact cu rfl rfl
    ·rfl
   ·exact jqe ..
   ·rfl
  ·rfl
 ·rfl
theorem jqa(X:Ctx Rf)(t:TypeId)(m key:TV)(H:List TOb)(k:List St→TV→Option R):jdh X t m key H k=(jdh X t m key H rt).bind (un k):=by
 unfold jdh;split
 ·split
  ·split
   ·split
    ·exact cu rfl rfl
    ·rfl
   ·rfl
  ·rfl
 ·rfl
theorem jcv(u:Ty)(d:TV)(H:List TOb)(fr' :Bool)(ys:List u.den)(k:List St→TV→Option R):jhu u d H fr' ys k=(jhu u d H fr' ys rt).bind (un k):=by
 unfold jhu;split
 ·split
  ·split
   ·rfl
   ·rfl
  ·rfl
 ·split
  ·split
   ·rfl
   ·rfl
  ·rfl
 ·rfl
theorem jpk(X:Ctx Rf)(u:Ty)(d x:TV)(H:List TOb)(k:List St→TV→Option R):jcw X u d x H k=(jcw X u d x H rt).bind (un k):=by
 unfold jcw;split
 ·rename_i δ _ _ _;refine(jcv _ _ _ _ _ _).trans ?_;rw[jcv (k:=fun δ' v=>rt (δ++δ') v)];rw[Option.bind_assoc];rfl
 ·rfl
theorem jky(u:Ty)(d:TV)(H:List TOb)(k:List St→TV→Option R):q0s u d H k=(q0s u d H rt).bind (un k):=by
 unfold q0s;split
 ·split
  ·split
   ·rfl
   ·rfl
  ·rfl
 ·split
  ·split
   ·rfl
   ·rfl
  ·rfl
 ·rfl
theorem jrr(X:Ctx Rf)(t t' :TypeId)(d x:TV)(H:List TOb)(k:List St→TV→Option R):jo6 X t t' d x H k=(jo6 X t t' d x H rt).bind (un k):=by
 unfold jo6;split
 ·split
  ·split
   ·refine cu ?_ rfl;rw[←fb];rfl
   ·rfl
  ·rfl
 ·rfl
theorem jsm(X:Ctx Rf)(op:Op)(e:Operand→TV)(H:List TOb)(k:List St→TV→Option R):jk2 X op e H k=(jk2 X op e H rt).bind (un k):=by
 unfold jk2;split
 ·split
  ·exact cu rfl rfl
  ·rfl
 ·split
  ·split
   ·rw[←fb];rfl
   ·rfl
  ·rfl
 ·split
  ·rw[jah (k:=fun δ=>k δ TV.any),jah (k:=fun δ=>rt δ TV.any),←fb];congr 1;rw[Option.bind_assoc];rfl
  ·rfl
 ·split
  ·split
   ·split
    ·rw[←fb];rfl
    ·rfl
   ·rfl
  ·rfl
 ·split
  ·split
   ·refine cu ?_ rfl;split
    ·split
     ·rw[←fb];rfl
     ·rfl
    ·rfl
   ·rfl
  ·rfl
 ·exact q84 ..
 ·split
  ·rw[←fb];exact congrArg _ (q84 ..)
  ·rfl
 ·rw[←fb];exact congrArg _ (jqc ..)
 ·rw[←fb];exact congrArg _ (jdl ..)
 ·rw[←fb];exact congrArg _ (jdl ..)
 ·split
  ·split
   ·rw[←fb];exact congrArg _ (jpk ..)
   ·rfl
  ·rfl
 ·split
  ·split
   ·rw[←fb];exact congrArg _ (jky ..)
   ·rfl
  ·rfl
 ·rw[←fb];exact congrArg _ (jqa ..)
 ·refine cu ?_ (jrr ..);split
  ·split
   ·rw[←fb];exact congrArg _ (jo5 X _ _ _ _ _ H k (fun v=>bif _ then .nl (some false) v else v))
   ·rfl
  ·rfl
 ·split
  ·refine cu ?_ ?_
   ·rw[jcu,←fb]
   ·split
    ·rw[jcu,←fb]
    ·rfl
  ·rfl
 ·rfl
theorem juy(X:Ctx Rf)(op:Op)(e:Operand→TV)(H:List TOb)(k:List St→TV→Option R):qin X op e H k=(qin X op e H rt).bind (un k):=by
 unfold qin;split
 ·rw[←fb];rfl
 ·exact cu (jsm ..) rfl
theorem jd3{X:Ctx Rf}{op:Op}{e:Operand→TV}{H:List TOb}{k:List St→TV→Option R}{r:R}(h:qin X op e H k=some r):∃δ v,k δ v=some r∧qin X op e H rt=some (δ,v):=by
 rw[juy]at h;cases hq:qin X op e H rt with
 |none=>rw[hq]at h;cases h
 |some p=>rw[hq]at h;exact⟨p.1,p.2,h,rfl⟩
end
end Go.K
namespace Go.K
open Go.M Go.RowKit
def q1z(ops:List Oper)(i:Nat):List Nat:=match ops[i]? with|some o=>(o.after.toList.filter (Region.binds .any)).map (·.on)|none=>[]
def qfh(D:Nat→Bool):Nat→Nat
 |0=>0
 |N+1=>qfh D N+if D N=true then 0 else 1
def n7(D:Nat→Bool)(i:Nat):Nat→Bool:=fun k=>if k=i then true else D k
theorem jmf(D:Nat→Bool)(i:Nat)(hi:D i=false):∀N,i<N→qfh (n7 D i) N+1=qfh D N:=by
 have low:∀N,N≤i→qfh (n7 D i) N=qfh D N:=by
  intro N
  induction N with
  |zero=>intro _;rfl
  |succ N ih=>intro h;simp only[qfh,ih (show N≤i by omega),n7,show N≠i by omega,if_false]
 intro N
 induction N with
 |zero=>intro h;omega
 |succ N ih=>
  intro h;simp only[qfh];by_cases he:N=i
  ·subst he;rw[low N (Nat.le_refl _)];simp[n7,hi]
  ·have e:n7 D i N=D N:=by simp[n7,he]
   rw[e];have:=ih (by omega);omega
theorem jj8(D:Nat→Bool):∀N,qfh D N=0→∀i,i<N→D i=true:=by
 intro N
 induction N with
 |zero=>intro _ i hi;omega
 |succ N ih=>
  intro h i hi;simp only[qfh]at h;by_cases hN:D N=true
  ·by_cases he:i=N
   ·subst he;exact hN
   ·exact ih (by omega) i (by omega)
  ·rw[if_neg hN]at h;omega
theorem jbt(l:Array Bool)(i k:Nat)(hi:i<l.size)(d:Bool):(l.setIfInBounds i true).getD k d=if k=i then true else l.getD k d:=by
 by_cases h:k=i
 ·subst h;simp[hi]
 ·simp only[h,if_false,Array.getD_eq_getD_getElem?];rw[Array.getElem?_setIfInBounds_ne (Ne.symm h)]
def q0k(l:List Oper)(D:Nat→Bool):Prop:=∀i,D i=true→∀k∈q1z l i,D k=true
theorem jsj{P:Program}(hmix:P.follows .mixedOrders=true){id:Nat}{l:List Oper}(hback:∀i k,k∈q1z l i→k<i){Q:Exit→Act→World→Prop}(Inv:(Nat→Bool)→Act→World→Prop)
  (hstep:∀D i o a w,q0k l D→(∀k,l.length≤k→D k=false)→l[i]? =some o→D i=false→(∀k∈q1z l i,D k=true)→Inv D a w→∀KK:Act→World→Prop,(∀a' w',Inv (n7 D i) a' w' →KK a' w')→
   if Region.wanted o (yielded l.toArray a.tmps)=true then o.wp P a w KK Q else KK (a.put o.dst undef) w)
  (hend:∀D a w,(∀i,i<l.length→D i=true)→(∀k,l.length≤k→D k=false)→Inv D a w→Q .normal a w) {a:Act} {w:World} (h0:Inv (fun _=>false) a {w with drawn:=w.drawn+1}):(Code.region id l.toArray true).wp P Q a w:=by
 refine wp_region_any hmix ?_;have edge:∀(i:Nat) (o:Oper) (e:Edge),l[i]? =some o→e∈o.after→Region.binds .any e=true→e.on∈q1z l i:=by
  intro i o e ho he hb;simp only[q1z,ho];exact List.mem_map.2 ⟨e,List.mem_filter.2 ⟨by simpa using he,hb⟩,rfl⟩
 have edge' :∀(i:Nat) (o:Oper) (k:Nat),l[i]? =some o→k∈q1z l i→∃e∈o.after,Region.binds .any e=true∧e.on=k:=by
  intro i o k ho hk;simp only[q1z,ho]at hk;obtain⟨e,he,rfl⟩:=List.mem_map.1 hk;obtain⟨h1,h2⟩:=List.mem_filter.1 he;exact⟨e,by simpa using h1,h2,rfl⟩
 suffices H:∀(fuel:Nat) (listed:Array Bool) (a:Act) (w:World),listed.size=l.length→q0k l (fun k=>listed.getD k false)→qfh (fun k=>listed.getD k false) l.length≤fuel→Inv (fun k=>listed.getD k false) a w→wpAny P .any l.toArray Q fuel listed a w by
  have hfalse:(fun k=>(Array.replicate l.toArray.size false).getD k false)=fun _=>false:=by
   funext i;rw[Array.getD_eq_getD_getElem?];by_cases hi:i<l.length
   ·simp[hi]
   ·rw[Array.getElem?_eq_none (by simpa using hi)];rfl
  refine H l.toArray.size (Array.replicate l.toArray.size false) a _ (by simp) (by rw[hfalse];exact fun i hi=>by cases hi) ?_ (by rw[hfalse];exact h0);have:∀(D:Nat→Bool) N,qfh D N≤N:=by
   intro D N
   induction N with
   |zero=>exact Nat.le_refl _
   |succ N ih=>simp only[qfh];split<;>omega
  simpa using this _ l.length
 have hbeyond:∀(listed:Array Bool),listed.size=l.length→∀k,l.length≤k→listed.getD k false=false:=by
  intro listed hsz k hk;rw[Array.getD_eq_getD_getElem?,Array.getElem?_eq_none (by omega)];rfl
 have hfull:∀(listed:Array Bool),listed.size=l.length→Region.ready .any l.toArray listed=[]→∀i,i<l.length→listed.getD i false=true:=by
  intro listed hsz hnil i
  induction i using Nat.strongRecOn with
  |_ i ih=>
   intro hi;cases hb:listed.getD i false with
   |true=>rfl
   |false=>
    have:i∈Region.ready .any l.toArray listed:=by
     refine mem_ready.2 ⟨?_,l[i],by simp[hi],fun e he hbd=> ?_⟩
     ·rw[Array.getD_eq_getD_getElem?,Array.getElem?_eq_getElem (by omega)]at hb⊢;exact hb
     ·have:=hback i e.on (edge i l[i] e (by simp[hi]) he hbd);exact ih e.on this (by omega)
    rw[hnil]at this;cases this
 intro fuel
 induction fuel with
 |zero=>
  intro listed a w hsz hcl hund hinv;have hall:=jj8 _ l.length (Nat.le_zero.1 hund);refine⟨?_,hend _ a w hall (hbeyond listed hsz) hinv⟩;apply List.eq_nil_iff_forall_not_mem.2;intro i hi;obtain⟨h1,o,ho,_⟩:=mem_ready.1 hi;have hlt:i<l.length:=by
   have:=(Array.getElem?_eq_some_iff.1 ho).1;simpa using this
  have:=hall i hlt;rw[Array.getD_eq_getD_getElem?,Array.getElem?_eq_getElem (by omega)]at this h1;simp only[Option.getD_some]at this h1;rw[this]at h1;cases h1
 |succ fuel ih=>
  intro listed a w hsz hcl hund hinv;refine⟨fun hnil=>hend _ a w (hfull listed hsz hnil) (hbeyond listed hsz) hinv,fun i hi=> ?_⟩;obtain⟨h1,o,ho,hon⟩:=mem_ready.1 hi;have hil:i<l.length:=by
   have:=(Array.getElem?_eq_some_iff.1 ho).1;simpa using this
  have ho' :l[i]? =some o:=by simpa using ho
  have hdi:listed.getD i false=false:=by
   rw[Array.getD_eq_getD_getElem?,Array.getElem?_eq_getElem (by omega)]at h1⊢;exact h1
  have hon' :∀k∈q1z l i,listed.getD k false=true:=by
   intro k hk;obtain⟨e,he,hb,rfl⟩:=edge' i o k ho' hk;exact hon e he hb
  have hset:(fun k=>(listed.setIfInBounds i true).getD k false)=n7 (fun k=>listed.getD k false) i:=by
   funext k;exact jbt listed i k (by omega) false
  unfold wpOp;simp only[ho];have:=hstep (fun k=>listed.getD k false) i o a w hcl (hbeyond listed hsz) ho' hdi hon' hinv (wpAny P .any l.toArray Q fuel (listed.setIfInBounds i true)) (fun a' w' hi' =>by
   refine ih _ a' w' (by simpa using hsz) ?_ ?_ (by rw[hset];exact hi')
   ·rw[hset];intro j hj k hk;simp only[n7]at hj⊢;split
    ·rfl
    ·split at hj
     ·rename_i e;subst e;exact hon' k hk
     ·exact hcl j hj k hk
   ·rw[hset];have:=jmf (fun k=>listed.getD k false) i hdi l.length hil;omega)
  split
  ·rename_i hw;rw[if_pos hw]at this;exact .inl this
  ·rename_i hw;rw[if_neg hw]at this;exact this
end Go.K
namespace Go.K
open Go.M Go.RowKit
def onN(o:Oper):List Nat:=(o.after.toList.filter (Region.binds .any)).map (·.on)
def dN(o:Oper):Nat:=match o.dst with|some d=>d+1|none=>0
def usN(ops:List Oper)(o:Oper):List Nat:=(o.op.operands.toList.filterMap fun| .tmp t=>some t|_=>none)++(match o.guard with|some g=>(qx0 ops g.1).toList|none=>[])
def tc(k:Nat):List Nat→Bool
 |[]=>false
 |a::l=>bif Nat.beq a k then true else tc k l
def jdd(i:Nat):List Nat→Bool
 |[]=>true
 |k::l=>bif Nat.blt k i then jdd i l else false
def inW(bg:List Nat)(j i:Nat):Bool:=Nat.testBit (bg.getD i 0) j
def q4p(bg:List Nat):List Nat→Nat
 |[]=>0
 |j::l=>Nat.lor (Nat.lor (Nat.shiftLeft 1 j) (bg.getD j 0)) (q4p bg l)
def qz4(bg:List Nat):Nat→List Oper→Bool
 |_,[]=>true
 |i,o::l=>bif Nat.beq (bg.getD i 0) (q4p bg (onN o))&&jdd i (onN o)then qz4 bg (i+1) l else false
def qw9(ops:List Oper)(o o' :Oper):Bool:=
 (match o.dst with|some d=>tc d (usN ops o')||Nat.beq (d+1) (dN o')|none=>false)||(match o'.dst with|some d=>tc d (usN ops o)|none=>false)
def qe7:Op→Bool
 | .move _=>true
 | .assign _=>true
 | .extract _ _=>true
 |_=>false
def jnx(ops:List Oper)(bg rs:List Nat)(i:Nat)(o:Oper)(k:Nat)(o' :Oper):Bool:=
 match tc i rs,tc k rs with
 |false,_=> !qw9 ops o o' ||inW bg i k
 |true,true=>inW bg i k||(!qw9 ops o o' &&(qe7 o.op||qe7 o'.op))
 |true,false=> !qw9 ops o o'
def jgg(ops:List Oper)(bg rs:List Nat)(i:Nat)(o:Oper):Nat→List Oper→Bool
 |_,[]=>true
 |k,o' ::l=>bif jnx ops bg rs i o k o' then jgg ops bg rs i o (k+1) l else false
def q6y(ops:List Oper)(bg rs:List Nat):Nat→List Oper→Bool
 |_,[]=>true
 |i,o::l=>bif jgg ops bg rs i o (i+1) l then q6y ops bg rs (i+1) l else false
def jsi(ops:List Oper)(bg rs:List Nat):Bool:=qz4 bg 0 ops&&q6y ops bg rs 0 ops
mutual
def TV.all(p:TG→Bool):TV→Bool
 | .own T=>p T
 | .ownS T _ _=>p T
 | .ptr T _ _=>p T
 | .mp T=>p T
 | .fn _ l=>TV.allL p l
 | .agg l=>TV.allL p l
 | .tup l=>TV.allL p l
 | .cond _ a=>TV.all p a
 | .nl _ a=>TV.all p a
 |_=>true
def TV.allL(p:TG→Bool):List TV→Bool
 |[]=>true
 |v::l=>TV.all p v&&TV.allL p l
end
def TOb.all(p:TG→Bool):TOb→Bool
 | .cs _ _ _ l=>TV.allL p l
 |_=>true
def jef(p:TG→Bool):List TOb→Bool
 |[]=>true
 |o::l=>o.all p&&jef p l
def Ac.isId:Ac→Bool
 | .id=>true
 |_=>false
def jit(z:List Nat):TG→Ac
 | .o t=>bif tc t z then .kill else .id
 | .r t _ _=>bif tc t z then .kill else .id
def qk2(z:List Nat)(v:TV):TV:=match z with|[]=>v|a::z=>v.sb (jit (a::z))
def q4s(z:List Nat):Nat→List TOb→List TOb
 |_,[]=>[]
 |t,o::l=>(bif tc t z then .gone else o)::q4s z (t+1) l
def qs8(z:List Nat)(H:List TOb):List TOb:=match z with|[]=>H|a::z=>q4s (a::z) 0 H
structure En where
 i : Nat
 dst : Option Tmp
 xs : List TV
 Hv : List TOb
 n : Nat
 news : List TOb
 v : TV
 wk : Bool
def qe8:Nat→List St→Option (List TOb)
 |_,[]=>some []
 |n, .new t o::l=>bif Nat.beq t n then(match qe8 (n+1) l with|some r=>some (o::r)|none=>none)else none
 |_,_=>none
def places:Nat→Nat→List Nat
 |_,0=>[]
 |n,k+1=>n::places (n+1) k
def zR(bg:List Nat)(i:Nat):List En→List Nat
 |[]=>[]
 |e::l=>bif inW bg e.i i then zR bg i l else places e.n e.news.length++zR bg i l
def jur(bg:List Nat)(i:Nat):List Nat→Bool
 |[]=>false
 |r::l=>bif inW bg i r then jur bg i l else true
def zA(bg rs τ:List Nat)(i:Nat)(recs:List En):List Nat:=(bif jur bg i rs then τ else [])++zR bg i recs
def qqq:List Bool→Bool
 |[]=>true
 |c::l=>c&&qqq l
def jz2:List TV→Bool
 |[]=>true
 | .any::l=>jz2 l
 |_=>false
def jr3:TV→TV→Option (List Bool)
 | .any,_=>some []
 | .int k n, .int k' m=>if k=k' then some [decide (n=m)]else none
 | .bool b, .bool c=>some [b==c]
 | .own (.o t), .own (.o t')=>bif Nat.beq t t' then some []else none
 |_,_=>none
def q0q:List TV→List TV→Option (List Bool)
 |[],_=>some []
 |v::l,[]=>match v with| .any=>q0q l []|_=>none
 |v::l,v' ::l' =>
  match jr3 v v' with
  |some a=>match q0q l l' with|some b=>some (a++b)|none=>none
  |none=>none
def jun(wk:Bool)(ob o:TOb):Option (List Bool):=
 match ob with
 | .gone=>some []
 | .cs ty sz n cs=>
  bif wk&&Nat.blt 0 sz then
   match o with
   | .cs ty' sz' n' cs' =>bif Nat.beq ty ty' &&Nat.beq sz sz' &&Nat.beq n n' then q0q cs cs' else none
   | .arr ty' _ _ u xs=>bif Nat.beq ty ty' &&Nat.beq sz u.sz&&jz2 cs then some [decide (n=xs.length)]else none
   |_=>none
  else none
 |_=>none
def jn9(wk:Bool)(ob o:TOb):Bool:=match jun wk ob o with|some l=>qqq l|none=>false
def qg5(e:En):St→Bool
 | .sb θ=>TV.allL (fun T=>(θ T).isId) e.xs&&jef (fun T=>(θ T).isId) e.Hv&&jef (fun T=>(θ T).isId) e.news&&e.v.all (fun T=>(θ T).isId)
 | .set t o=>(Nat.blt t e.n||Nat.ble (e.n+e.news.length) t)&&jn9 e.wk (e.Hv.getD t .gone) o
 | .new t _=>Nat.ble (e.n+e.news.length) t&&Nat.ble e.Hv.length t
def ud(e:En):List St→Bool
 |[]=>true
 |x::l=>qg5 e x&&ud e l
def quz(bg:List Nat)(i:Nat)(δ:List St):List En→Bool
 |[]=>true
 |e::l=>(inW bg e.i i||ud e δ)&&quz bg i δ l
def qzc(e:En):St→Option (List Bool)
 | .sb θ=>bif TV.allL (fun T=>(θ T).isId) e.xs&&jef (fun T=>(θ T).isId) e.Hv&&jef (fun T=>(θ T).isId) e.news&&e.v.all (fun T=>(θ T).isId)then some []else none
 | .set t o=>bif Nat.blt t e.n||Nat.ble (e.n+e.news.length) t then jun e.wk (e.Hv.getD t .gone) o else none
 | .new t _=>bif Nat.ble (e.n+e.news.length) t&&Nat.ble e.Hv.length t then some []else none
def qzd(e:En):List St→Option (List Bool)
 |[]=>some []
 |x::l=>
  match qzc e x with
  |some a=>match qzd e l with|some b=>some (a++b)|none=>none
  |none=>none
def q9d(bg:List Nat)(i:Nat)(δ:List St):List En→Option (List Bool)
 |[]=>some []
 |e::l=>
  bif inW bg e.i i then q9d bg i δ l
  else
   match qzd e δ with
   |some a=>match q9d bg i δ l with|some b=>some (a++b)|none=>none
   |none=>none
theorem qwy:∀{a b:List Bool},qqq (a++b)=true→qqq a=true∧qqq b=true
 |[],_,h=>⟨rfl,h⟩
 |c::a,b,h=>by
  simp only[List.cons_append,qqq,Bool.and_eq_true]at h;obtain⟨h1,h2⟩:=qwy h.2;exact⟨by simp[qqq,h.1,h1],h2⟩
theorem jly{e:En}{x:St}{l:List Bool}(h:qzc e x=some l)(hl:qqq l=true):qg5 e x=true:=by
 cases x with
 |sb θ=>
  simp only[qzc]at h;exact(ai h).1
 |set t o=>
  simp only[qzc]at h;obtain⟨h1,h2⟩:=ai h;simp only[qg5,h1,Bool.true_and,jn9,h2,hl]
 |new t o=>
  simp only[qzc]at h;exact(ai h).1
theorem q4a{e:En}:∀{δ:List St} {l:List Bool},qzd e δ=some l→qqq l=true→ud e δ=true
 |[],_,_,_=>rfl
 |x::δ,l,h,hl=>by
  simp only[qzd]at h;split at h
  ·rename_i a ha;split at h
   ·rename_i b hb;cases h;obtain⟨h1,h2⟩:=qwy hl;simp only[ud,jly ha h1,q4a hb h2,Bool.and_self]
   ·cases h
  ·cases h
theorem q1y{bg:List Nat}{i:Nat}{δ:List St}:∀{recs:List En} {l:List Bool},q9d bg i δ recs=some l→qqq l=true→quz bg i δ recs=true
 |[],_,_,_=>rfl
 |e::recs,l,h,hl=>by
  simp only[q9d]at h;cases hw:inW bg e.i i with
  |true=>
   rw[hw]at h;simp only[quz,hw,Bool.true_or,Bool.true_and];exact q1y h hl
  |false=>
   rw[hw]at h;simp only[cond_false]at h;split at h
   ·rename_i a ha;split at h
    ·rename_i b hb;cases h;obtain⟨h1,h2⟩:=qwy hl;simp only[quz,q4a ha h1,q1y hb h2,Bool.or_true,Bool.and_self]
    ·cases h
   ·cases h
def q5z(S:List (Nat×TV))(d:Option Tmp)(v:TV):List (Nat×TV):=match d with|some d=>(d,v)::S|none=>S
section
variable {R Rf : Type}
def jxy:Op→Bool
 | .buildSlice .. =>true
 | .makeSlice .. =>true
 | .alloc .. =>true
 | .box .. =>true
 |_=>false
def qo0:Nat→List TOb
 |0=>[]
 |n+1=> .gone::qo0 n
theorem qco:∀n,(qo0 n).length=n
 |0=>rfl
 |n+1=>by simp[qo0,qco n]
theorem q8l:∀{n t:Nat} {ob:TOb},(qo0 n)[t]? =some ob→ob= .gone
 |0,t,ob,h=>by simp[qo0]at h
 |n+1,0,ob,h=>by simpa[qo0]using h.symm
 |n+1,t+1,ob,h=>q8l (n:=n) (t:=t) (by simpa[qo0]using h)
def qk9:Nat→Nat→List TV→List TV
 |_,_,[]=>[]
 |k+1,m,_::l=> .any::qk9 k m l
 |0,m+1,c::l=>c::qk9 0 m l
 |0,0,_::l=> .any::qk9 0 0 l
theorem qy1:∀(k m:Nat) (l:List TV) (i:Nat),(qk9 k m l).getD i .any= .any∨(qk9 k m l).getD i .any=l.getD i .any
 |_,_,[],i=>by simp[qk9]
 |k+1,m,_::l,0=>by simp[qk9]
 |k+1,m,_::l,i+1=>by simpa[qk9]using qy1 k m l i
 |0,m+1,c::l,0=>by simp[qk9]
 |0,m+1,c::l,i+1=>by simpa[qk9]using qy1 0 m l i
 |0,0,_::l,0=>by simp[qk9]
 |0,0,_::l,i+1=>by simpa[qk9]using qy1 0 0 l i
structure HvW (op : Op) (Hv H : List TOb) : Prop where
 at_ : ∀ (t : Nat) (ob : TOb), Hv[t]? = some ob → ob = .gone ∨ H[t]? = some ob ∨ (us op = true ∧ ∃ ob', H[t]? = some ob' ∧ CsW ob ob')
 len : Hv.length ≤ H.length
def jtj(sz:Nat)(x:TV)(Hv:List TOb):List TOb:=
 match x with
 | .ptr (.o tg) i f=>
  match Hv[tg]? with
  |some (.cs ty z n cs)=>bif Nat.blt 0 z then qo0 tg++[.cs ty z n (qk9 (i.toNat*z+f) sz cs)]else Hv
  |_=>Hv
 |_=>Hv
def j2t(x:TV)(Hv:List TOb):List TOb:=
 match x with
 | .own (.o tg)=>
  match Hv[tg]? with
  |some (.cs ty z n _)=>bif Nat.blt 0 z then qo0 tg++[.cs ty z n []]else Hv
  |some (.arr ty _ _ u xs)=>bif Nat.blt 0 u.sz then qo0 tg++[.cs ty u.sz xs.length []]else Hv
  |_=>Hv
 |_=>Hv
def hvA(X:Ctx Rf)(e:Operand→TV)(op:Op)(Hv:List TOb):List TOb:=
 match pvT X.wr X.tt [] e op with
 |some _=>[]
 |none=>
  match op with
  | .load t x=>(match X.tt t with|some ti=>jtj ti.sz (e x).gt Hv|none=>Hv)
  | .indexAddr _ x _=>j2t (e x).gt Hv
  |op=>bif jxy op then qo0 Hv.length else Hv
theorem jt6(op:Op)(ho:us op=true){tg:Nat}{Hv:List TOb}{ob ob' :TOb}(hq:Hv[tg]? =some ob')(hc:CsW ob ob'):HvW op (qo0 tg++[ob]) Hv:=by
 have hlt:tg<Hv.length:=(List.getElem?_eq_some_iff.1 hq).1;refine⟨fun t ob1 h=> ?_,by simp[qco];omega⟩;rcases Nat.lt_trichotomy t tg with h1|h1|h1
 ·rw[List.getElem?_append_left (by rw[qco];exact h1)]at h;exact .inl (q8l h)
 ·subst h1;rw[List.getElem?_append_right (by rw[qco];exact Nat.le_refl _),qco,Nat.sub_self]at h;simp only[List.getElem?_cons_zero,Option.some.injEq]at h;subst h;exact .inr (.inr ⟨ho,_,hq,hc⟩)
 ·rw[List.getElem?_eq_none (by simp[qco];omega)]at h;cases h
theorem jwk(op:Op)(ho:us op=true)(sz:Nat)(x:TV)(Hv:List TOb):HvW op (jtj sz x Hv) Hv:=by
 unfold jtj;split
 ·rename_i tg i f;split
  ·rename_i ty z n cs hq;cases hz:Nat.blt 0 z with
   |false=>exact⟨fun t ob h=> .inr (.inl h),Nat.le_refl _⟩
   |true=>exact jt6 op ho hq ⟨ty,z,n,_,rfl,cz hz, .inl ⟨cs,rfl,qy1 _ _ _⟩⟩
  ·exact⟨fun t ob h=> .inr (.inl h),Nat.le_refl _⟩
 ·exact⟨fun t ob h=> .inr (.inl h),Nat.le_refl _⟩
theorem j2u(op:Op)(ho:us op=true)(x:TV)(Hv:List TOb):HvW op (j2t x Hv) Hv:=by
 unfold j2t;split
 ·rename_i tg;split
  ·rename_i ty z n cs hq;cases hz:Nat.blt 0 z with
   |false=>exact⟨fun t ob h=> .inr (.inl h),Nat.le_refl _⟩
   |true=>exact jt6 op ho hq ⟨ty,z,n,[],rfl,cz hz, .inl ⟨cs,rfl,fun i=> .inl rfl⟩⟩
  ·rename_i ty md its u xs hq;cases hz:Nat.blt 0 u.sz with
   |false=>exact⟨fun t ob h=> .inr (.inl h),Nat.le_refl _⟩
   |true=>exact jt6 op ho hq ⟨ty,u.sz,xs.length,[],rfl,cz hz, .inr ⟨md,its,u,xs,rfl,rfl,rfl,fun i=>rfl⟩⟩
  ·exact⟨fun t ob h=> .inr (.inl h),Nat.le_refl _⟩
 ·exact⟨fun t ob h=> .inr (.inl h),Nat.le_refl _⟩
theorem j5f(X:Ctx Rf)(e:Operand→TV)(op:Op)(Hv:List TOb):HvW op (hvA X e op Hv) Hv:=by
 unfold hvA;split
 ·exact⟨fun t ob h=>by simp at h,Nat.zero_le _⟩
 ·split
  ·split
   ·exact jwk _ rfl _ _ _
   ·exact⟨fun t ob h=> .inr (.inl h),Nat.le_refl _⟩
  ·exact j2u _ rfl _ _
  ·cases jxy op
   ·exact⟨fun t ob h=> .inr (.inl h),Nat.le_refl _⟩
   ·exact⟨fun t ob h=> .inl (q8l h),by simp[qco]⟩
def opA(X:Ctx Rf)(bg rs τ:List Nat)(i:Nat)(o:Oper)(S:List (Nat×TV))(H:List TOb)(recs:List En)(k:List (Nat×TV)→List TOb→List En→Option R):Option R:=
 qin X o.op (fun x=>qk2 (zR bg i recs) (evT X.N S x)) (hvA X (fun x=>qk2 (zR bg i recs) (evT X.N S x)) o.op (qs8 (zA bg rs τ i recs) H)) (fun δ v=>
  match qe8 H.length δ with
  |some obs=>k (q5z S o.dst v) (H++obs) (⟨i,o.dst,o.op.operands.toList.map (fun x=>qk2 (zR bg i recs) (evT X.N S x)),hvA X (fun x=>qk2 (zR bg i recs) (evT X.N S x)) o.op (qs8 (zA bg rs τ i recs) H),H.length,obs,v,us o.op⟩::recs)
  |none=>none)
def jca(X:Ctx Rf)(all:List Oper)(bg rs τ:List Nat):List Oper→Nat→List (Nat×TV)→List TOb→List En→(List (Nat×TV)→List TOb→List En→Option R)→Option R
 |[],_,S,H,recs,k=>k S H recs
 |o::rest,i,S,H,recs,k=>
  bif tc i rs then jca X all bg rs τ rest (i+1) S H recs k
  else
   match o.guard with
   |none=>opA X bg rs τ i o S H recs (fun S' H' recs' =>jca X all bg rs τ rest (i+1) S' H' recs' k)
   |some g=>jsz X.N all g S (fun S1=>opA X bg rs τ i o S1 H recs (fun S' H' recs' =>jca X all bg rs τ rest (i+1) S' H' recs' k))
    (fun S1=>jca X all bg rs τ rest (i+1) (q5z S1 o.dst .undef) H (⟨i,o.dst,[],[],H.length,[], .undef,us o.op⟩::recs) k)
def qzb:List St→Bool
 |[]=>true
 | .sb _::_=>false
 | .set _ _::l=>qzb l
 | .new _ _::l=>qzb l
def qv5(bg:List Nat)(i:Nat):List Nat→Bool
 |[]=>true
 |r::l=>bif Nat.beq r i||(inW bg r i||inW bg i r)then qv5 bg i l else false
def opR(X:Ctx Rf)(bg rs:List Nat)(recs:List En)(i:Nat)(o:Oper)(s:TS)(k:TS→Option R):Option R:=
 qin X o.op (fun x=>qk2 (zR bg i recs) (evT X.N s.S x)) (qs8 (zR bg i recs) s.H) (fun δ v=>match q9d bg i δ recs with|some cs=>bif qv5 bg i rs||qzb δ then ckL cs (k ((s.aps δ).put o.dst v))else none|none=>none)
def jgt(X:Ctx Rf)(all:List Oper)(bg rs:List Nat)(recs:List En):List Oper→Nat→TS→(TS→Option R)→Option R
 |[],_,s,k=>k s
 |o::rest,i,s,k=>
  bif tc i rs then
   match o.guard with
   |none=>opR X bg rs recs i o s (fun s' =>jgt X all bg rs recs rest (i+1) s' k)
   |some g=>jsz X.N all g s.S (fun S1=>opR X bg rs recs i o ⟨S1,s.H⟩ (fun s' =>jgt X all bg rs recs rest (i+1) s' k)) (fun S1=>jgt X all bg rs recs rest (i+1) ((TS.mk S1 s.H).put o.dst .undef) k)
  else jgt X all bg rs recs rest (i+1) s k
def jsk(X:Ctx Rf)(ops:List Oper)(bg rs τ:List Nat)(s:TS)(k:TS→Option R):Option R:=
 bif jsi ops bg rs then jca X ops bg rs τ ops 0 s.S s.H [] (fun S H recs=>jgt X ops bg rs recs ops 0 ⟨S,H⟩ k)else none
end
end Go.K
