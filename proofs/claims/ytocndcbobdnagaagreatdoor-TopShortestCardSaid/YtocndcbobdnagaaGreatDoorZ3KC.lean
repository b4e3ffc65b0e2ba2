/-
  A typed machine over the model's memory (part KC). No program is named.
-/
import Derived.Lib.AppendZeros
import Derived.Test.YtocndcbobdnagaaGreatDoorZ3KB
set_option linter.all false
namespace Go.K
open Go.M Go.RowKit
section
variable {U : Nat -> Prop} {w0 : World} {J0 : Pl} {K : Nat -> Bool} {N : Nat} {P : Program} {tt : TT}
theorem q7n(tg:Nat)(H:List TOb):(fun T' =>(vw H T').map (Vw.sb (cb (.o tg))))=vw (cx (bi tg) H):=by
 funext T;rw[qya (fun i f=>rfl),q4b]
theorem ARel.setTo{S:Nat->TV}{a:Act}{w:World}{J:Pl}{H1:List TOb}{tg:Nat}{T:TG}{v1:Vw}(hT:T.ob=tg)(h:ARel U w0 J0 K N S (upd (vw H1) T v1) a w J){ob' :TOb}
  (hI:∀T',T'.ob=tg->aj (vw (H1.set tg ob')) T' =aj (upd (vw H1) T v1) T')
  (hV:∀T' v',T'.ob=tg->vw (H1.set tg ob') T' =some v' ->∃v,upd (vw H1) T v1 T' =some v/\v'.ty=v.ty/\(∀i f,i<v.n->f<v.sz->∀y,VR (gr U (upd (vw H1) T v1) w J) (v.cs i f) y->VR (gr U (upd (vw H1) T v1) w J) (v'.cs i f) y)/\(v.sz=0->v.n=0->HZ (gr U (upd (vw H1) T v1) w J) (gr U (upd (vw H1) T v1) w J) v v')):
  ARel U w0 J0 K N S (vw (H1.set tg ob')) a w J/\gr U (vw (H1.set tg ob')) w J=gr U (upd (vw H1) T v1) w J:=by
 have hi:aj (vw (H1.set tg ob'))=aj (upd (vw H1) T v1):=by
  funext T';by_cases e:T'.ob=tg
  ·exact hI T' e
  ·simp only[aj,eh e,de (show T' ≠T from fun e' =>e (by rw[e'];exact hT))]
 refine⟨h.tell hi (fun t v hv=>hv) (fun T' v' hv' => ?_),by simp only[gr,hi]⟩;by_cases e:T'.ob=tg
 ·exact hV T' v' e hv'
 ·rw[eh e]at hv';exact⟨v',(de (fun e' =>e (by rw[e'];exact hT))).trans hv',rfl,fun i f _ _ y hy=>hy,qki v'⟩
def qsm(P:Program)(U:Nat->Prop)(w0:World)(J0:Pl)(K:Nat->Bool)(N:Nat)(s' :TS)(T:TG)(a:Act)(w:World)(st ty:TypeId)(vd sv:Value):Prop:=
 ∃v' w' J',(Builtin.append_ #[st,st] ty #[vd,sv]).run P w= .ok v' w' /\dr U w0 J0 K N s' a w' J' /\VR (gr U (vw s'.H) w' J') (.own T) v'
structure ElOK (tt : TT) (st el : TypeId) (u : Ty) (ei : TI) : Prop where
 st : ∃ b1 b2 z1, tt st = some ⟨.slice el, b1, b2, z1⟩
 el : tt el = some ei
 sz : ei.sz = u.sz
 pos : 0 < u.sz
 z : ei.zero.length = ei.sz
theorem qxb{n b:Nat}(h:room n b=true):n<=maxLen/\n*b<=140737488355328:=by
 simp only[room,Wc,WH]at h;unfold maxLen;omega
theorem jjx(hF:dq P tt){s:TS}{a:Act}{w:World}{J:Pl}(h:dr U w0 J0 K N s a w J){tg:Nat}{st ty el:TypeId}{u:Ty}{ei:TI}(hE:ElOK tt st el u ei){fr:Bool}{its:List TypeId}{xs:List u.den}(ho:s.H[tg]? =some (.arr el (.fz fr) its u xs))(hK:K tg=false)
  {off n:Nat} {vd:Value} (hd:SlR w J (.o tg) u.sz off n vd) (hle:off+n<=xs.length) {fr' :Bool} {ys:List u.den} {sv:Value} (hs:w9 (gr U (vw s.H) w J) u.sz ys.length (fun i f=>(u.cells fr' (ys.getD i u.dft)).getD f .any) sv) (hroom:room (n+ys.length) ei.bytes=true):
  qsm P U w0 J0 K N ⟨sbS (bi tg) s.S,(cx (bi tg) s.H).set tg (.arr el (.fz (fr&&fr')) its u ((xs.drop off).take n++ys))⟩ (.o tg) a w st ty vd sv:=by
 obtain⟨⟨b1,b2,z1,hst⟩,hel,hsz,hpos,hz⟩:=hE;obtain⟨sa,c,news,rfl,hl,hsa,h1,hsrc⟩:=hs.news hpos;obtain⟨hr1,hr2⟩:=qxb hroom;obtain⟨v',w',J',hrun,hr,hm,hV⟩:=h.append hF (ty:=ty) hst hel (az ho) rfl hsz hpos hz (fun t e=>by cases e;exact hK) hd hle (c:=c) hl hsa h1 hsrc hr1 hr2;refine⟨v',w',J',hrun,?_⟩;rw[q7n]at hr hV hm;have hS:(fun t=>(bu s.S t).sb (cb (.o tg)))=bu (sbS (bi tg) s.S):=by
  funext t;rw[fv,q4b]
 rw[hS]at hr;have ho1:(cx (bi tg) s.H)[tg]? =some (.arr el (.fz fr) its u xs):=ve ho;have hlt:tg<(cx (bi tg) s.H).length:=(Wh.1 ho1).1;have hov:((cx (bi tg) s.H).set tg (.arr el (.fz (fr&&fr')) its u ((xs.drop off).take n++ys)))[tg]? =some (.arr el (.fz (fr&&fr')) its u ((xs.drop off).take n++ys)):=Wl hlt;have hlen:((xs.drop off).take n++ys).length=n+ys.length:=by simp;omega
 obtain⟨hr',hG⟩:=ARel.setTo (tg:=tg) (T:= .o tg) (ob' := .arr el (.fz (fr&&fr')) its u ((xs.drop off).take n++ys)) rfl hr (fun T' e=>by
  cases T' with
  |o t=>simp only[TG.ob]at e;subst e;simp only[aj,az hov,ec,Wd,hlen,Vw.app]
  |r t i f=>simp only[TG.ob]at e;subst e;rw[show aj (upd (vw (cx (bi t) s.H)) (.o t) (Vw.app ⟨el,u.sz,xs.length,fun i f=>b7 t (.fz fr) u xs i f⟩ (cb (.o t)) off n ys.length (fun i f=>(u.cells fr' (ys.getD i u.dft)).getD f .any))) (.r t i f)=aj (vw (cx (bi t) s.H)) (.r t i f) by simp only[aj,de (show TG.r t i f≠ .o t by simp)]];simp only[aj,l9 hov,l9 ho1,Md.isOwn];simp) (fun T' v1 e hv1=>by
  cases T' with
  |o t=>
   simp only[TG.ob]at e;subst e;rw[az hov]at hv1;cases hv1;refine⟨_,ec _ _ _,rfl,fun i f hi hf y hy=> ?_,fun e _=>absurd (show u.sz=0 from e) (by omega)⟩;have hf2:f<u.sz:=hf;show VR _ (b7 t (.fz (fr&&fr')) u ((xs.drop off).take n++ys) i f) y;rw[ns,<-Ty.C_iff _ _ _ _ _ _ hf2];simp only[Vw.app]at hy;have hi2:i<n+ys.length:=hi;by_cases hin:i<n
   ·rw[if_pos hin,ns,Ty.cells_sb,<-Ty.C_iff _ _ _ _ _ _ hf2]at hy;have e:((xs.drop off).take n++ys).getD i u.dft=xs.getD (off+i) u.dft:=by
     simp only[Wa];rw[Wo (by simp;omega),WZ,if_pos hin,WI]
    rw[e];exact Ty.C_fr (fun e=>by simp at e;exact e.1) hy
   ·rw[if_neg hin,Ty.cells_sb,<-Ty.C_iff _ _ _ _ _ _ hf2]at hy;have e:((xs.drop off).take n++ys).getD i u.dft=ys.getD (i-n) u.dft:=by
     simp only[Wa];rw[Wu (by simp;omega)];congr 2;simp;omega
    rw[e];exact Ty.C_fr (fun e=>by simp at e;exact e.2) hy
  |r t i f=>simp only[TG.ob]at e;subst e;simp only[l9 hov,Md.isOwn]at hv1;simp at hv1)
 exact⟨hr',by rw[hG];exact hV⟩
theorem dr.pushNil{s:TS}{a:Act}{w:World}{J:Pl}(h:dr U w0 J0 K N s a w J){n:Nat}(hfree:s.H[n]? =none\/s.H[n]? =some .gone)(hn:n<=s.H.length)(ty:TypeId)(md:Md)(its:List TypeId)(u:Ty):
  dr U w0 J0 K N ⟨s.S,fq s.H n (.arr ty md its u [])⟩ a w J/\(∀A v,VR (gr U (vw s.H) w J) A v->VR (gr U (vw (fq s.H n (.arr ty md its u []))) w J) A v)/\J (.o n)=none:=by
 have hvn:∀T,T.ob=n->vw s.H T=none:=by
  intro T hT;cases T with
  |o t=>simp only[TG.ob]at hT;subst hT;rcases hfree with e|e<;>simp[vw,e,vwO]
  |r t i f=>simp only[TG.ob]at hT;subst hT;rcases hfree with e|e<;>simp[vw,e,vwR]
 have hJn:∀T,T.ob=n->J T=none:=by
  intro T hT;cases hq:J T with
  |none=>rfl
  |some p=>
   obtain⟨v,hv⟩:=h.hr.dom T p hq;rw[hvn T hT]at hv;cases hv
 have hov:(fq s.H n (.arr ty md its u []))[n]? =some (.arr ty md its u []):=by rw[ko _ _ _ hn,if_pos rfl]
 have hV:∀T,¬T.ob=n->vw (fq s.H n (.arr ty md its u [])) T=(vw s.H T).map (Vw.sb fun _=> .id):=fun T hT=>by rw[qo7];exact jjd hn hT
 have hm:Mv (fun _=> .id) (gr U (vw s.H) w J) (gr U (vw (fq s.H n (.arr ty md its u []))) w J):=by
  refine⟨Wg _,fun _ _ hx=>hx,fun _ _ _ hu=>hu,fun _ _ _=>rfl,fun T T' q ht hq=> ?_,fun T fr u xs q e=>by cases e⟩;rcases ht with⟨_,rfl⟩|ht
  ·have hT:¬T'.ob=n:=fun e=>by
    have hq:aj (vw s.H) T' =some q:=hq;simp only[aj,hvn T' e]at hq;cases hq
   exact⟨by show aj _ T' =_;rw[qda (hV T' hT)];exact hq,fun g o hg=>⟨hg,fun cur e hh=>⟨cur,hh,rfl⟩⟩⟩
  ·cases ht
 refine⟨ARel.re' (θ:=fun _=> .id) (S' :=bu s.S) (J' :=J) h (fun t=>t=n) (fun t=>(TV.sb_id _).symm) hV (fun _ _=>rfl) (fun _ _=>rfl) (fun T T' q hT _ hq=>by simp only[aj,hvn T hT]at hq;cases hq) (fun T fr u xs e=>by cases e)
  (fun T p hT hp=>by rw[hJn T hT]at hp;cases hp) (fun T T' g o o' hT _ h1=>by rw[hJn T hT]at h1;cases h1) (fun T p hT hp=>by rw[hJn T hT]at hp;cases hp) (fun t _ _=>rfl) (fun _ T v hT hv=> ?_),fun A v hv=> ?_,hJn (.o n) rfl⟩
 ·rw[hJn T hT];cases T with
  |o t=>simp only[TG.ob]at hT;subst hT;rw[az hov]at hv;cases hv;rfl
  |r t i f=>simp only[TG.ob]at hT;subst hT;rw[l9 hov]at hv;simp at hv
 ·have:=VR.mv hm A v hv;rwa[TV.sb_id]at this
theorem j1e(hF:dq P tt){s:TS}{a:Act}{w:World}{J:Pl}(h:dr U w0 J0 K N s a w J){tg:Nat}{st ty el ty0:TypeId}{v:Ty}{ei:TI}(hE:ElOK tt st el v ei){its:List TypeId}{u:Ty}{xs:List u.den}(ho:s.H[tg]? =some (.arr ty0 .own its u xs)){i f:Nat}{zs:List v.den}
  (hin:ek u (xs.getD i u.dft) f=some ⟨v,zs⟩) (hty:its.getD f 0=el) {vd:Value} (hd:VR (gr U (vw s.H) w J) (.own (.r tg i f)) vd) {ys:List v.den} {sv:Value} (hs:w9 (gr U (vw s.H) w J) v.sz ys.length (fun i f=>(v.cells true (ys.getD i v.dft)).getD f .any) sv)
  {x' :u.den} (hset:q0s u (xs.getD i u.dft) f v (zs++ys)=some x') (hroom:room (zs.length+ys.length) ei.bytes=true):
  qsm P U w0 J0 K N ⟨sbS (ba tg) s.S,(cx (ba tg) s.H).set tg (.arr ty0 (.hole i f) its u (xs.set i x'))⟩ (.r tg i f) a w st ty vd sv:=by
 obtain⟨⟨b1,b2,z1,hst⟩,hel,hsz,hpos,hz⟩:=hE;obtain⟨n,sz,hI,hd⟩:=hd;have hI:aj (vw s.H) (.r tg i f)=some (n,sz):=hI;have hi:i<xs.length:=by
  rcases Wz i xs.length with h' |h'
  ·exact h'
  ·simp only[aj,l9 ho,show¬i<xs.length by omega,and_false,KI]at hI;cases hI
 have hvk:=qih ho rfl hi hin;simp only[aj,hvk,Wd,Wb,Wj]at hI;obtain⟨rfl,rfl⟩:=hI;have hk:=h.kills (qo3 tg);have hG0:gr U (vw (cx (ba tg) s.H)) w J=gr U (vw s.H) w J:=by simp only[gr,qg9]
 have ho1:(cx (ba tg) s.H)[tg]? =some (.arr ty0 .own its u xs):=ve ho;have hvk1:=qih ho1 rfl hi hin;rw[<-hG0]at hs;obtain⟨sa,c,news,rfl,hl,hsa,h1,hsrc⟩:=hs.news hpos;obtain⟨hr1,hr2⟩:=qxb hroom;obtain⟨v',w',J',hrun,hr,hm,hV⟩:=hk.append hF (ty:=ty) hst hel hvk1 hty hsz hpos hz (fun t e=>by cases e) (off:=0) hd (by simp) (c:=c) hl hsa h1 hsrc hr1 hr2;refine⟨v',w',J',hrun,?_⟩;have hS:(fun t=>(bu (sbS (ba tg) s.S) t).sb (cb (.r tg i f)))=bu (sbS (ba tg) s.S):=by
  funext t;rw[fv,TV.sb_sb (ba tg) (cb (.r tg i f)) (ba tg) (qcd _ qo2)]
 have hr:ARel U w0 J0 K N (fun t=>(bu (sbS (ba tg) s.S) t).sb (cb (.r tg i f))) _ a w' J' :=hr;rw[hS]at hr;obtain⟨_,hin',hoth⟩:=q5y hset;have hlt:tg<(cx (ba tg) s.H).length:=(Wh.1 ho1).1;have hov:((cx (ba tg) s.H).set tg (.arr ty0 (.hole i f) its u (xs.set i x')))[tg]? =some (.arr ty0 (.hole i f) its u (xs.set i x')):=Wl hlt;have hkid:vw ((cx (ba tg) s.H).set tg (.arr ty0 (.hole i f) its u (xs.set i x'))) (.r tg i f)=some ⟨its.getD f 0,v.sz,(zs++ys).length,fun j g=>(v.cells true ((zs++ys).getD j v.dft)).getD g .any⟩:=
  qih hov rfl (by simpa using hi) (by rw[b8 hi,if_pos rfl];exact hin')
 have hrow:∀i' f',(TG.r tg i' f')≠ .r tg i f->vw ((cx (ba tg) s.H).set tg (.arr ty0 (.hole i f) its u (xs.set i x'))) (.r tg i' f')=vw (cx (ba tg) s.H) (.r tg i' f'):=by
  intro i' f' hne;rw[l9 hov,l9 ho1,b8 hi,WB];simp only[Md.isOwn,true_and];split
  ·by_cases e:i' =i
   ·subst e;rw[if_pos rfl,qha (hoth f' (fun e=>hne (by rw[e])))]
   ·rw[if_neg e]
  ·rfl
 generalize hVV:(upd (fun T' =>(vw (cx (ba tg) s.H) T').map (Vw.sb (cb (.r tg i f)))) (.r tg i f) (Vw.app ⟨its.getD f 0,v.sz,zs.length,fun j g=>(v.cells true (zs.getD j v.dft)).getD g .any⟩ (cb (.r tg i f)) 0 zs.length ys.length (fun i f=>(v.cells true (ys.getD i v.dft)).getD f .any)))=VV at hr hV hm;have hVk:VV (.r tg i f)=some (Vw.app ⟨its.getD f 0,v.sz,zs.length,fun j g=>(v.cells true (zs.getD j v.dft)).getD g .any⟩ (cb (.r tg i f)) 0 zs.length ys.length (fun i f=>(v.cells true (ys.getD i v.dft)).getD f .any)):=by rw[<-hVV];exact ec _ _ _
 have hVn:∀T,T≠ .r tg i f->VV T=(vw (cx (ba tg) s.H) T).map (Vw.sb (cb (.r tg i f))):=fun T hT=>by rw[<-hVV];exact de hT
 have hinfo:aj (vw ((cx (ba tg) s.H).set tg (.arr ty0 (.hole i f) its u (xs.set i x'))))=aj VV:=by
  funext T;by_cases e:T= .r tg i f
  ·subst e;simp only[aj,hkid,hVk,Wd,Vw.app,Wx]
  ·rw[show aj VV T=aj (vw (cx (ba tg) s.H)) T from qda (hVn T e)];by_cases e2:T.ob=tg
   ·cases T with
    |o t=>simp only[TG.ob]at e2;subst e2;simp only[aj,az hov,az ho1,Wd,WB]
    |r t i' f' =>simp only[TG.ob]at e2;subst e2;simp only[aj,hrow i' f' e]
   ·simp only[aj,eh e2]
 have hG:gr U (vw ((cx (ba tg) s.H).set tg (.arr ty0 (.hole i f) its u (xs.set i x')))) w' J' =gr U VV w' J' :=by simp only[gr,hinfo]
 refine⟨hr.tell hinfo (fun t v hv=>hv) (fun T v1 hv1=> ?_),by rw[hG];exact hV⟩;by_cases e:T= .r tg i f
 ·subst e;rw[hkid]at hv1;cases hv1;refine⟨_,hVk,rfl,fun j g hj hg y hy=> ?_,fun e _=>absurd (show v.sz=0 from e) (by omega)⟩;show VR _ ((v.cells true ((zs++ys).getD j v.dft)).getD g .any) y;simp only[Vw.app,WR]at hy;by_cases hin2:j<zs.length
  ·rw[if_pos hin2,Ty.cells_sb]at hy;have e:(zs++ys).getD j v.dft=zs.getD j v.dft:=by
    simp only[Wa];rw[Wo hin2]
   rw[e];exact hy
  ·rw[if_neg hin2,Ty.cells_sb]at hy;have e:(zs++ys).getD j v.dft=ys.getD (j-zs.length) v.dft:=by
    simp only[Wa];rw[Wu (by omega)]
   rw[e];exact hy
 ·rw[hVn T e];by_cases e2:T.ob=tg
  ·cases T with
   |o t=>
    simp only[TG.ob]at e2;subst e2;rw[az hov]at hv1;cases hv1;rw[az ho1];refine⟨_,rfl,rfl,fun i' f' hi' hf' y hy=> ?_,fun _ e=>absurd (show xs.length=0 from e) (by omega)⟩;have hy:VR (gr U VV w' J') ((b7 t .own u xs i' f').sb (cb (.r t i f))) y:=hy;show VR _ (b7 t (.hole i f) u (xs.set i x') i' f') y;by_cases ei:i' =i/\f' =f
    ·obtain⟨rfl,rfl⟩:=ei;have:b7 t (.hole i' f') u (xs.set i' x') i' f' = .any:=by
      unfold b7;simp only[Md.fr];rw[b8 hi,if_pos rfl,qkj hin'];simp
     rw[this]
     trivial
    ·rw[qde (q8 (fun e' =>ei (by cases e';exact⟨rfl,rfl⟩)))]at hy;have:b7 t (.hole i f) u (xs.set i x') i' f' =b7 t .own u xs i' f' :=by
      rw[<-qcf (t:=t) (md:= .own) (xs:=xs) (xs' :=xs.set i x') rfl]
      ·unfold b7;simp only[Md.fr];split
       ·rw[if_neg ei]
       ·rfl
      ·rw[b8 hi];by_cases e3:i' =i
       ·subst e3;rw[if_pos rfl];exact .inl (hoth f' (fun e' =>ei ⟨rfl,e'⟩))
       ·rw[if_neg e3];exact .inl rfl
     rw[this];exact hy
   |r t i' f' =>
    simp only[TG.ob]at e2;subst e2;rw[hrow i' f' e]at hv1;rw[hv1];exact⟨_,rfl,rfl,fun j g _ _ y hy=>by
     have hy:VR (gr U VV w' J') ((v1.cs j g).sb (cb (.r t i f))) y:=hy;rwa[qfz hv1]at hy,fun _ _=>⟨⟨fun _=> .id,fun j g=>by show v1.cs j g=((v1.cs j g).sb _).sb _;rw[qfz hv1,TV.sb_id]⟩,fun j y hy=>by
     have hy:VR _ ((v1.cs j 1).sb _) y:=hy;rwa[qfz hv1]at hy⟩⟩
  ·rw[eh e2]at hv1;rw[<-qya (fun i' f' =>q8 (fun e' =>e2 (by cases e';rfl))),qgx (ba tg) (cb (.r tg i f)) (ba tg) (qcd _ qo2)];exact⟨v1,hv1,rfl,fun j g _ _ y hy=>hy,qki v1⟩
theorem js8{α β:Type}(es:List (α×β))(i:Nat)(x:β)(j:Nat):(quc es i x)[j]? =if j=i then(es[j]?).map (fun e=>(e.1,x))else es[j]? :=by
 unfold quc;split
 ·rename_i e he;rw[KY];by_cases hj:i=j
  ·subst hj;have hlt:=(Wh.1 he).1;rw[if_pos rfl,if_pos rfl,if_pos hlt,he];rfl
  ·rw[if_neg hj,if_neg (Ko hj)]
 ·rename_i he;split
  ·rename_i hj;subst hj;rw[he];rfl
  ·rfl
theorem jn6{α β:Type}(es:List (α×β))(i:Nat)(x:β):(quc es i x).length=es.length:=by
 unfold quc;split
 ·exact WB
 ·rfl
theorem jiq{α β:Type}(es:List (α×List β))(i:Nat)(x:List β)(hi:i<es.length)(j:Nat):qeh (quc es i x) j=if j=i then x else qeh es j:=by
 unfold qeh;rw[js8];by_cases hj:j=i
 ·subst hj;rw[if_pos rfl,if_pos rfl,Wi hi];rfl
 ·rw[if_neg hj,if_neg hj]
theorem jza(t:Nat)(kt:Ty){β:Type}(es:List (kt.den×β))(i:Nat)(x:β)(h:Option Nat)(j f:Nat):moC t kt (quc es i x) h j f=moC t kt es h j f:=by
 unfold moC;rw[js8];by_cases hj:j=i
 ·rw[if_pos hj];cases es[j]? <;>rfl
 ·rw[if_neg hj]
theorem j65(hF:dq P tt){s:TS}{a:Act}{w:World}{J:Pl}(h:dr U w0 J0 K N s a w J){tg:Nat}{st ty el:TypeId}{kt v:Ty}{ei:TI}(hE:ElOK tt st el v ei){es:List (kt.den×List v.den)}(ho:s.H[tg]? =some (.mo kt v el es none)){i:Nat}
  (hi:i<es.length) {vd:Value} (hd:VR (gr U (vw s.H) w J) (.own (.r tg i 0)) vd) {ys:List v.den} {sv:Value} (hs:w9 (gr U (vw s.H) w J) v.sz ys.length (fun i f=>(v.cells true (ys.getD i v.dft)).getD f .any) sv)
  (hroom:room ((qeh es i).length+ys.length) ei.bytes=true):
  qsm P U w0 J0 K N ⟨sbS (ba tg) s.S,(cx (ba tg) s.H).set tg (.mo kt v el (quc es i (qeh es i++ys)) (some i))⟩ (.r tg i 0) a w st ty vd sv:=by
 obtain⟨⟨b1,b2,z1,hst⟩,hel,hsz,hpos,hz⟩:=hE;obtain⟨n,sz,hI,hd⟩:=hd;have hI:aj (vw s.H) (.r tg i 0)=some (n,sz):=hI;generalize hzs:qeh es i=zs at hroom⊢;have hvk:vw s.H (.r tg i 0)=some ⟨el,v.sz,zs.length,fun j g=>(v.cells true (zs.getD j v.dft)).getD g .any⟩:=by
  rw[qm ho,if_pos ⟨rfl,hi⟩,hzs]
 simp only[aj,hvk,Wd,Wb,Wj]at hI;obtain⟨rfl,rfl⟩:=hI;have hk:=h.kills (qo3 tg);have hG0:gr U (vw (cx (ba tg) s.H)) w J=gr U (vw s.H) w J:=by simp only[gr,qg9]
 have ho1:(cx (ba tg) s.H)[tg]? =some (.mo kt v el es none):=by rw[ij,ho];rfl
 have hvk1:vw (cx (ba tg) s.H) (.r tg i 0)=some ⟨el,v.sz,zs.length,fun j g=>(v.cells true (zs.getD j v.dft)).getD g .any⟩:=by
  rw[qm ho1,if_pos ⟨rfl,hi⟩,hzs]
 rw[<-hG0]at hs;obtain⟨sa,c,news,rfl,hl,hsa,h1,hsrc⟩:=hs.news hpos;obtain⟨hr1,hr2⟩:=qxb hroom;obtain⟨v',w',J',hrun,hr,hm,hV⟩:=hk.append hF (ty:=ty) hst hel hvk1 rfl hsz hpos hz (fun t e=>by cases e) (off:=0) hd (by simp) (c:=c) hl hsa h1 hsrc hr1 hr2;refine⟨v',w',J',hrun,?_⟩;have hS:(fun t=>(bu (sbS (ba tg) s.S) t).sb (cb (.r tg i 0)))=bu (sbS (ba tg) s.S):=by
  funext t;rw[fv,TV.sb_sb (ba tg) (cb (.r tg i 0)) (ba tg) (qcd _ qo2)]
 have hr:ARel U w0 J0 K N (fun t=>(bu (sbS (ba tg) s.S) t).sb (cb (.r tg i 0))) _ a w' J' :=hr;rw[hS]at hr;have hlt:tg<(cx (ba tg) s.H).length:=(Wh.1 ho1).1;generalize hob' :TOb.mo kt v el (quc es i (zs++ys)) (some i)=ob';have hov:((cx (ba tg) s.H).set tg ob')[tg]? =some (.mo kt v el (quc es i (zs++ys)) (some i)):=by rw[Wl hlt,hob']
 have hkid:vw ((cx (ba tg) s.H).set tg ob') (.r tg i 0)=some ⟨el,v.sz,(zs++ys).length,fun j g=>(v.cells true ((zs++ys).getD j v.dft)).getD g .any⟩:=by
  rw[qm hov,if_pos ⟨rfl,by rw[jn6];exact hi⟩,jiq es i _ hi,if_pos rfl]
 have hrow:∀i' f',(TG.r tg i' f')≠ .r tg i 0->vw ((cx (ba tg) s.H).set tg ob') (.r tg i' f')=vw (cx (ba tg) s.H) (.r tg i' f'):=by
  intro i' f' hne;rw[qm hov,qm ho1,jn6];split
  ·rename_i hc;rw[jiq es i _ hi,if_neg (fun e=>hne (by rw[e,hc.1]))]
  ·rfl
 generalize hVV:(upd (fun T' =>(vw (cx (ba tg) s.H) T').map (Vw.sb (cb (.r tg i 0)))) (.r tg i 0) (Vw.app ⟨el,v.sz,zs.length,fun j g=>(v.cells true (zs.getD j v.dft)).getD g .any⟩ (cb (.r tg i 0)) 0 zs.length ys.length (fun i f=>(v.cells true (ys.getD i v.dft)).getD f .any)))=VV at hr hV hm;have hVk:VV (.r tg i 0)=some (Vw.app ⟨el,v.sz,zs.length,fun j g=>(v.cells true (zs.getD j v.dft)).getD g .any⟩ (cb (.r tg i 0)) 0 zs.length ys.length (fun i f=>(v.cells true (ys.getD i v.dft)).getD f .any)):=by rw[<-hVV];exact ec _ _ _
 have hVn:∀T,T≠ .r tg i 0->VV T=(vw (cx (ba tg) s.H) T).map (Vw.sb (cb (.r tg i 0))):=fun T hT=>by rw[<-hVV];exact de hT
 have hinfo:aj (vw ((cx (ba tg) s.H).set tg ob'))=aj VV:=by
  funext T;by_cases e:T= .r tg i 0
  ·subst e;simp only[aj,hkid,hVk,Wd,Vw.app,Wx]
  ·rw[show aj VV T=aj (vw (cx (ba tg) s.H)) T from qda (hVn T e)];by_cases e2:T.ob=tg
   ·cases T with
    |o t=>simp only[TG.ob]at e2;subst e2;simp only[aj,qa0 hov,qa0 ho1,Wd]
    |r t i' f' =>simp only[TG.ob]at e2;subst e2;simp only[aj,hrow i' f' e]
   ·simp only[aj,eh e2]
 have hG:gr U (vw ((cx (ba tg) s.H).set tg ob')) w' J' =gr U VV w' J' :=by simp only[gr,hinfo]
 refine⟨hr.tell hinfo (fun t v hv=>hv) (fun T v1 hv1=> ?_),by rw[hG];exact hV⟩;by_cases e:T= .r tg i 0
 ·subst e;rw[hkid]at hv1;cases hv1;refine⟨_,hVk,rfl,fun j g hj hg y hy=> ?_,fun e _=>absurd (show v.sz=0 from e) (by omega)⟩;show VR _ ((v.cells true ((zs++ys).getD j v.dft)).getD g .any) y;simp only[Vw.app,WR]at hy;by_cases hin2:j<zs.length
  ·rw[if_pos hin2,Ty.cells_sb]at hy;have e:(zs++ys).getD j v.dft=zs.getD j v.dft:=by
    simp only[Wa];rw[Wo hin2]
   rw[e];exact hy
  ·rw[if_neg hin2,Ty.cells_sb]at hy;have e:(zs++ys).getD j v.dft=ys.getD (j-zs.length) v.dft:=by
    simp only[Wa];rw[Wu (by omega)]
   rw[e];exact hy
 ·rw[hVn T e];by_cases e2:T.ob=tg
  ·cases T with
   |o t=>
    simp only[TG.ob]at e2;subst e2;rw[qa0 hov]at hv1;cases hv1;rw[qa0 ho1];have hcell:∀i' f',moC t kt (quc es i (zs++ys)) (some i) i' f' =(moC t kt es none i' f').sb (cb (.r t i 0)):=by
     intro i' f';rw[jza];unfold moC;split
     ·split
      ·rfl
      ·by_cases e3:i=i'
       ·subst e3;rw[if_pos rfl,if_neg (by simp)];simp[TV.sb,cb]
       ·rw[if_neg (by simpa using e3),if_neg (by simp)];simp[TV.sb,cb,Ko e3]
      ·rfl
     ·rfl
    exact⟨_,rfl,rfl,fun i' f' hi' hf' y hy=>absurd hi' (Nat.not_lt_zero _),fun _ _=>⟨⟨fun _=> .id,fun i' f' =>by
     show moC t kt (quc es i (zs++ys)) (some i) i' f' =((moC t kt es none i' f').sb (cb (.r t i 0))).sb _;rw[hcell,TV.sb_id]⟩,fun i' y hy=>by
     show VR _ (moC t kt (quc es i (zs++ys)) (some i) i' 1) y;rw[hcell];exact hy⟩⟩
   |r t i' f' =>
    simp only[TG.ob]at e2;subst e2;rw[hrow i' f' e]at hv1;rw[hv1];exact⟨_,rfl,rfl,fun j g _ _ y hy=>by
     have hy:VR (gr U VV w' J') ((v1.cs j g).sb (cb (.r t i 0))) y:=hy;rwa[qfz hv1]at hy,fun _ _=>⟨⟨fun _=> .id,fun j g=>by show v1.cs j g=((v1.cs j g).sb _).sb _;rw[qfz hv1,TV.sb_id]⟩,fun j y hy=>by
     have hy:VR _ ((v1.cs j 1).sb _) y:=hy;rwa[qfz hv1]at hy⟩⟩
  ·rw[eh e2]at hv1;rw[<-qya (fun i' f' =>q8 (fun e' =>e2 (by cases e';rfl))),qgx (ba tg) (cb (.r tg i 0)) (ba tg) (qcd _ qo2)];exact⟨v1,hv1,rfl,fun j g _ _ y hy=>hy,qki v1⟩
end
end Go.K
namespace Go.K
open Go.M Go.RowKit
theorem jvf{A:TV}(h:jqq A=true):A= .val (.slice none 0 0):=by
 unfold jqq at h;split at h
 ·rfl
 ·cases h
theorem js9:∀{A B:List TV},jn8 A B=true->∀f fr v ys,A.getD f .any= .sl fr v ys->B.getD f .any= .val (.slice none 0 0)
 |[],_,_,f,fr,v,ys,h=>by simp at h
 |_::_,[],h,_,_,_,_,_=>by simp[jn8]at h
 |a::A,b::B,h,0,fr,v,ys,hf=>by
  simp only[jn8,Wc]at h;simp only[K9]at hf⊢;subst hf;exact jvf (by simpa[j4i]using h.1)
 |a::A,b::B,h,f+1,fr,v,ys,hf=>by
  simp only[jn8,Wc]at h;simpa using js9 h.2 f fr v ys (by simpa using hf)
section
variable {U : Nat -> Prop} {w0 : World} {J0 : Pl} {K : Nat -> Bool} {N : Nat} {P : Program} {tt : TT}
theorem jvw{u:Ty}{cs:List TV}{x:u.den}{g:Bool}(h:u.pack1 cs=some (x,g)){f:Nat}(hf:f<u.sz)(hc:cs.getD f .any= .val (.slice none 0 0)){v:Ty}{ys:List v.den}(hin:ek u x f=some ⟨v,ys⟩):ys=[]:=by
 have:=(Ty.pack1_ok (G:=⟨default,fun _=>True,fun _=>True,fun _=>none,fun _=>none⟩) h).2 f hf (.slice none 0 0) (by rw[hc];rfl);rw[Ty.C_dc _ _ true u x f _ hf,qkj hin]at this;obtain⟨a,c,e,_⟩:=this;cases ys with
 |nil=>rfl
 |cons y ys=>simp at e
theorem jnk{A:TV}{w:World}{Y:Nat->Prop}(hf:qbc true A)(hns:∀fr v ys,A≠ .sl fr v ys)(h:DC w Y A (.slice none 0 0)):False:=by
 cases A with
 |int k n=>cases h
 |bool b=>cases h
 |val c=>cases c<;>simp only[qbc]at hf;cases h
 |sl fr v ys=>exact hns _ _ _ rfl
 |_=>exact hf
theorem jmu(hF:dq P tt){s:TS}{a:Act}{w:World}{J:Pl}(h:dr U w0 J0 K N s a w J){tg:Nat}{st ty el:TypeId}{u:Ty}{ei:TI}(hE:ElOK tt st el u ei){its:List TypeId}{xs:List u.den}(ho:s.H[tg]? =some (.arr el .own its u xs))(hK:K tg=false){vd:Value}(hd:SlR w J (.o tg) u.sz 0 xs.length vd)
  {cells:List TV} (hnil:jn8 (u.cells true u.dft) cells=true) {x:u.den} {g:Bool} (hpk:u.pack1 cells=some (x,g)) {sv:Value} (hs:w9 (gr U (vw s.H) w J) u.sz 1 (fun i f=>cells.getD (i*u.sz+f) .any) sv) (hroom:room (xs.length+1) ei.bytes=true):
  qsm P U w0 J0 K N ⟨sbS (bi tg) s.S,(cx (bi tg) s.H).set tg (.arr el .own its u (xs++[x]))⟩ (.o tg) a w st ty vd sv:=by
 obtain⟨⟨b1,b2,z1,hst⟩,hel,hsz,hpos,hz⟩:=hE;obtain⟨sa,c,news,rfl,hl,hsa,h1,hsrc⟩:=hs.news hpos;obtain⟨hr1,hr2⟩:=qxb hroom;obtain⟨v',w',J',hrun,hr,hm,hV⟩:=h.append hF (ty:=ty) hst hel (az ho) rfl hsz hpos hz (fun t e=>by cases e;exact hK) (off:=0) hd (by simp) (c:=c) hl hsa h1 hsrc hr1 hr2;refine⟨v',w',J',hrun,?_⟩;rw[q7n]at hr hV hm;have hS:(fun t=>(bu s.S t).sb (cb (.o tg)))=bu (sbS (bi tg) s.S):=by
  funext t;rw[fv,q4b]
 rw[hS]at hr;have ho1:(cx (bi tg) s.H)[tg]? =some (.arr el .own its u xs):=ve ho;have hlt:tg<(cx (bi tg) s.H).length:=(Wh.1 ho1).1;have hov:((cx (bi tg) s.H).set tg (.arr el .own its u (xs++[x])))[tg]? =some (.arr el .own its u (xs++[x])):=Wl hlt;have hlen:(xs++[x]).length=xs.length+1:=by simp
 have hold:∀i,i<xs.length->(xs++[x]).getD i u.dft=xs.getD i u.dft:=fun i hi=>by simp only[Wa,Wo hi]
 have hnew:(xs++[x]).getD xs.length u.dft=x:=by simp
 have hys:∀f v ys,ek u x f=some ⟨v,ys⟩->ys=[]/\cells.getD f .any= .val (.slice none 0 0):=by
  intro f v ys hin;have hfu:=qo1 hin;obtain⟨v',zs,⟨_,_⟩,hd'⟩:=Ty.cells_slice true true u x u.dft f ⟨v,ys,qkj hin⟩;have hc:=js9 hnil f true v' zs hd';exact⟨jvw hpk hfu hc hin,hc⟩
 have hrowN:∀f v,vw ((cx (bi tg) s.H).set tg (.arr el .own its u (xs++[x]))) (.r tg xs.length f)=some v->v.n=0:=by
  intro f v hv;rw[l9 hov,if_pos ⟨rfl,by simp⟩,hnew]at hv;cases hq:ek u x f with
  |none=>rw[hq]at hv;cases hv
  |some y=>
   obtain⟨v0,ys⟩:=y;rw[hq]at hv;cases hv;rw[(hys f v0 ys hq).1];rfl
 have hrowO:∀i f,i≠xs.length->vw ((cx (bi tg) s.H).set tg (.arr el .own its u (xs++[x]))) (.r tg i f)=vw (cx (bi tg) s.H) (.r tg i f):=by
  intro i f hi;rw[l9 hov,l9 ho1,hlen];by_cases e:i<xs.length
  ·rw[if_pos ⟨rfl,by omega⟩,if_pos ⟨rfl,e⟩,hold i e]
  ·rw[if_neg (by omega),if_neg (by omega)]
 have hrow1:∀f,vw (cx (bi tg) s.H) (.r tg xs.length f)=none:=fun f=>by rw[l9 ho1,if_neg (by simp)]
 have hJN:∀f,J' (.r tg xs.length f)=none:=by
  intro f;cases hq:J' (.r tg xs.length f)with
  |none=>rfl
  |some p=>
   obtain⟨v0,hv0⟩:=hr.hr.dom _ p hq;rw[de (by simp),hrow1]at hv0;cases hv0
 generalize hvv:(Vw.app ⟨el,u.sz,xs.length,fun i f=>b7 tg .own u xs i f⟩ (cb (.o tg)) 0 xs.length 1 (fun i f=>cells.getD (i*u.sz+f) .any))=vv at hr hV hm;have hvn:vv.n=xs.length+1:=by rw[<-hvv];rfl
 have hvs:vv.sz=u.sz:=by rw[<-hvv];rfl
 have hvt:vv.ty=el:=by rw[<-hvv];rfl
 have hvc:∀i f,vv.cs i f=if i<xs.length then(b7 tg .own u xs (0+i) f).sb (cb (.o tg))else(cells.getD ((i-xs.length)*u.sz+f) .any).sb (cb (.o tg)):=fun i f=>by rw[<-hvv];rfl
 have hto:∀T q,aj (upd (vw (cx (bi tg) s.H)) (.o tg) vv) T=some q->aj (vw ((cx (bi tg) s.H).set tg (.arr el .own its u (xs++[x])))) T=some q:=by
  intro T q hq;by_cases e:T.ob=tg
  ·cases T with
   |o t=>
    simp only[TG.ob]at e;subst e;simp only[aj,ec,Wd,hvn,hvs]at hq;simp only[aj,az hov,Wd,hlen];exact hq
   |r t i f=>
    simp only[TG.ob]at e;subst e;simp only[aj,de (show TG.r t i f≠ .o t by simp)]at hq;by_cases ei:i=xs.length
    ·subst ei;rw[hrow1]at hq;cases hq
    ·simp only[aj,hrowO i f ei];exact hq
  ·simp only[aj,de (show T≠ .o tg from fun e' =>e (by rw[e'];rfl))]at hq;simp only[aj,eh e];exact hq
 have hm2:Mv (fun _=> .id) (gr U (upd (vw (cx (bi tg) s.H)) (.o tg) vv) w' J') (gr U (vw ((cx (bi tg) s.H).set tg (.arr el .own its u (xs++[x])))) w' J'):=
  ⟨Wg _,fun _ _ hx=>hx,fun _ _ _ hu=>hu,fun _ _ _=>rfl,fun T T' q ht hq=>(by
   rcases ht with⟨_,rfl⟩|ht
   ·exact⟨hto T' q hq,fun g o hg=>⟨hg,fun cur e hh=>⟨cur,hh,rfl⟩⟩⟩
   ·cases ht),fun T fr u xs q e=>(by cases e)⟩
 refine⟨ARel.re' (θ:=fun _=> .id) (S' :=bu (sbS (bi tg) s.S)) (J' :=J') hr (fun t=>t=tg) (fun t=>(TV.sb_id _).symm) (fun T hT=> ?_) (fun _ _=>rfl) (fun _ _=>rfl) (fun T T' q hT ht hq=> ?_) (fun T fr u xs e=>by cases e) (fun T p hT hp=>⟨T,hT,hp⟩) (fun T T' g o o' _ _ h1 h2=>hr.hr.inj T T' g o o' h1 h2) (fun T p hT hp=> ?_) (fun _ _ _=>rfl) (fun hm T v1 hT hv1=> ?_),?_⟩
 ·rw[qo7,de (fun e' =>hT (by rw[e'];rfl))];exact eh hT
 ·rcases ht with⟨_,rfl⟩|ht
  ·exact⟨hto T' q hq,fun g o hg=>hg⟩
  ·cases ht
 ·obtain⟨v0,hv0⟩:=hr.hr.dom T p hp;have:aj (upd (vw (cx (bi tg) s.H)) (.o tg) vv) T=some (v0.n,v0.sz):=by simp only[aj,hv0,Wd]
  obtain⟨v2,hv2,_⟩:=HR.info_lt (hto T _ this);exact⟨v2,hv2⟩
 ·cases T with
  |o t=>
   simp only[TG.ob]at hT;subst hT;rw[az hov]at hv1;cases hv1;refine(hr.hr.obj (.o t) _ (ec _ _ _)).mv hm (fun _ _ _=>rfl) hvt.symm hvs.symm (by rw[hvn];exact hlen) (fun i f hi hf y hy=> ?_) (fun _ e=>absurd e (by omega));rw[hvn]at hi;rw[hvs]at hf;rw[hvc]at hy;show VR _ (b7 t .own u (xs++[x]) i f) y;by_cases e:i<xs.length
   ·rw[if_pos e,WR,qde (q8 (by simp))]at hy;have:=VR.mv hm _ y hy;rw[TV.sb_id]at this;rw[qcf (xs:=xs) rfl (.inl (by rw[hold i e]))];exact this
   ·have ei:i=xs.length:=by omega
    subst ei;rw[if_neg (by omega),HQ,Nat.zero_mul,WR]at hy;rw[qjv,hnew];have hpa:=q4x hpk hf true;cases hq:ek u x f with
    |some yy=>
     obtain⟨v0,ys⟩:=yy;obtain⟨rfl,hc⟩:=hys f v0 ys hq;rw[qkj hq];rw[hc]at hy;have hy:y= .slice none 0 0:=hy;subst hy;refine⟨0,v0.sz,?_, .inl ⟨none,rfl,rfl⟩⟩;show aj _ _=_;simp only[aj,l9 hov];rw[if_pos ⟨rfl,by simp⟩,hnew,hq];rfl
    |none=>
     have hns:∀fr v ys,(u.cells true x).getD f .any≠ .sl fr v ys:=fun fr v ys e=>by rw[qq1 e]at hq;cases hq
     have hdat:=Ty.cells_data true u x f hf;have hform:=qb8 (b:=true) (t:=u) (x:=x) (f:=f) rfl (by intro e;rw[e]at hdat;cases hdat);have hcell:(u.cells true x).getD f .any=cells.getD f .any:=by
      rw[hpa];split
      ·rename_i fr v ys e;rw[e]at hpa;exact absurd hpa (hns _ _ _)
      ·rename_i e;have:=(Ty.pack1_ok (G:=⟨default,fun _=>True,fun _=>True,fun _=>none,fun _=>none⟩) hpk).2 f hf (.slice none 0 0) (by rw[e];rfl);rw[Ty.C_dc _ _ true u x f _ hf]at this;exact(jnk hform hns this).elim
      ·rename_i e;have:=(Ty.pack1_ok (G:=⟨default,fun _=>True,fun _=>True,fun _=>none,fun _=>none⟩) hpk).2 f hf (.slice none 0 0) (by rw[e];exact⟨none,rfl⟩);rw[Ty.C_dc _ _ true u x f _ hf]at this;exact(jnk hform hns this).elim
      ·rfl
     have hy2:=VR.mv hm _ y hy;rw[TV.sb_id,<-hcell,Ty.cells_sb]at hy2;split
     ·rename_i e;exact absurd e (hns _ _ _)
     ·exact hy2
  |r t i f=>
   simp only[TG.ob]at hT;subst hT;by_cases ei:i=xs.length
   ·subst ei;rw[hJN];exact hrowN f v1 hv1
   ·rw[hrowO i f ei]at hv1;refine OR.re hm (hr.hr.obj _ _ ((de (by simp)).trans hv1)) rfl rfl rfl (fun j g _ _=> .inl (TV.sb_id _).symm) (fun _ _=>HZ.of hm fun _ _=>(TV.sb_id _).symm)
 ·have:=VR.mv hm2 _ _ hV;rwa[TV.sb_id]at this
def oi(t:Nat):TG->Ac
 | .o t' =>bif Nat.beq t' t then .kill else .id
 | .r t' _ _=>bif Nat.beq t' t then .kill else .id
theorem jyz(t:Nat)(T:TG):oi t T= .id\/oi t T= .kill:=by
 cases T with
 |o t' =>simp only[oi];cases Nat.beq t' t<;>simp
 |r t' _ _=>simp only[oi];cases Nat.beq t' t<;>simp
theorem jr8(hF:dq P tt){s:TS}{a:Act}{w:World}{J:Pl}(h:dr U w0 J0 K N s a w J){tg t2:Nat}{st ty el:TypeId}{v:Ty}{ei:TI}(hE:ElOK tt st el (.slice v) ei){its its2:List TypeId}{xs:List (Ty.slice v).den}(ho:s.H[tg]? =some (.arr el .own its (.slice v) xs))(hK:K tg=false)
  {ty2:TypeId} {fr2:Bool} {ys:(Ty.slice v).den} (ho2:s.H[t2]? =some (.arr ty2 (.fz fr2) its2 v ys)) (hne:t2≠tg) (hfl:(fr2||v.flat)=true) (hty2:ty2=its.getD 0 0) (hK2:K t2=false) {vd:Value} (hd:SlR w J (.o tg) 1 0 xs.length vd)
  {sv:Value} (hs:w9 (gr U (vw s.H) w J) 1 1 (fun i f=>([.own (.o t2)]:List TV).getD (i*1+f) .any) sv) (hroom:room (xs.length+1) ei.bytes=true):
  qsm P U w0 J0 K N ⟨sbS (q6 t2 tg xs.length 0) (sbS (bi tg) s.S),((cx (q6 t2 tg xs.length 0) (cx (bi tg) s.H)).set tg (.arr el .own its (.slice v) (xs++[ys]))).set t2 .gone⟩ (.o tg) a w st ty vd sv:=by
 obtain⟨⟨b1,b2,z1,hst⟩,hel,hsz,hpos,hz⟩:=hE;have hk:=h.kills (jyz tg);have hG0:gr U (vw (cx (oi tg) s.H)) w J=gr U (vw s.H) w J:=by simp only[gr,qg9]
 have ho1:(cx (oi tg) s.H)[tg]? =some (.arr el .own its (.slice v) xs):=ve ho;have ho12:(cx (oi tg) s.H)[t2]? =some (.arr ty2 (.fz fr2) its2 v ys):=ve ho2;rw[<-hG0]at hs;obtain⟨sa,c,news,rfl,hl,hsa,h1,hsrc⟩:=hs.news hpos;obtain⟨hr1,hr2⟩:=qxb hroom;obtain⟨v',w',J',hrun,hr,hm,hV⟩:=hk.append hF (ty:=ty) hst hel (az ho1) rfl hsz hpos hz (fun t e=>by cases e;exact hK) (off:=0) hd (by simp) (c:=c) hl hsa h1 hsrc hr1 hr2;refine⟨v',w',?_⟩;rw[q7n]at hr hV hm;have habs:∀T,oi tg T=match oi tg T with| .id=>bi tg T| .kill=> .kill| .to T' =>(match bi tg T' with| .id=> .to T' |a=>a)| .fz fr u xs=> .fz fr u xs:=by
  intro T;cases T with
  |o t' =>simp only[oi,bi];cases Nat.beq t' tg<;>rfl
  |r t' i f=>simp only[oi,bi];cases Nat.beq t' tg<;>rfl
 have hH2:cx (bi tg) (cx (oi tg) s.H)=cx (oi tg) s.H:=qgx _ _ _ habs s.H;rw[hH2]at hr hV hm;have hS:(fun t=>(bu (sbS (oi tg) s.S) t).sb (cb (.o tg)))=bu (sbS (oi tg) s.S):=by
  funext t;rw[fv,<-q4b,TV.sb_sb _ _ _ habs]
 have hr:ARel U w0 J0 K N (fun t=>(bu (sbS (oi tg) s.S) t).sb (cb (.o tg))) _ a w' J' :=hr;rw[hS]at hr;have hlt:tg<(cx (oi tg) s.H).length:=(Wh.1 ho1).1;have hov:((cx (oi tg) s.H).set tg (.arr el .own its (.slice v) (xs++[ys])))[tg]? =some (.arr el .own its (.slice v) (xs++[ys])):=Wl hlt;have hlen:(xs++[ys]).length=xs.length+1:=by simp
 have hold:∀i,i<xs.length->(xs++[ys]).getD i (Ty.slice v).dft=xs.getD i (Ty.slice v).dft:=fun i hi=>by simp only[Wa,Wo hi]
 have hnew:(xs++[ys]).getD xs.length (Ty.slice v).dft=ys:=by simp
 obtain⟨J'',he,hme⟩:=ARel.eat (i:=xs.length) (f:=0) (xs' :=xs++[ys]) hr ho1 ho12 hne hfl hty2 hK2 rfl rfl (by simp[Vw.app]) (by simp) (by rw[hnew];rfl) (by simp[Vw.app,TV.sb,cb,hne])
  (fun i' f' hi' hf' hne' =>by
   have hf0:f' =0:=by simp[Ty.sz]at hf';omega
   subst hf0;have hi2:i' <xs.length:=by
    rw[hlen]at hi';have:i' ≠xs.length:=fun e=>hne' (by rw[e])
    omega
   simp only[Vw.app,if_pos hi2,WR];rw[qde (q8 (by simp))];exact(qcf (xs:=xs) rfl (.inl (by rw[hold i' hi2]))).symm)
  (fun i' f' hne' =>by
   rw[l9 hov,l9 ho1,hlen];by_cases e:i' <xs.length
   ·rw[if_pos ⟨rfl,by omega⟩,if_pos ⟨rfl,e⟩,hold i' e]
   ·rw[if_neg (show¬(Md.own.isOwn=true/\i' <xs.length)from fun e' =>e e'.2)];by_cases e2:i' =xs.length
    ·subst e2;rw[if_pos ⟨rfl,by omega⟩,hnew];cases f' with
     |zero=>exact absurd rfl hne'
     |succ f' =>rfl
    ·rw[if_neg (by omega)])
 refine⟨J'',hrun,?_⟩;have hcomp:∀T,(match bi tg T with| .id=>q6 t2 tg xs.length 0 T| .kill=>Ac.kill| .to T' =>(match q6 t2 tg xs.length 0 T' with| .id=> .to T' |a=>a)| .fz fr u xs=> .fz fr u xs)=match oi tg T with| .id=>fm t2 tg xs.length 0 T| .kill=> .kill| .to T' =>(match fm t2 tg xs.length 0 T' with| .id=> .to T' |a=>a)| .fz fr u xs=> .fz fr u xs:=by
  intro T;cases T with
  |o t' =>
   by_cases e:t' =tg
   ·subst e;simp[bi,oi,W5]
   ·by_cases e2:t' =t2
    ·subst e2;simp[bi,oi,qnf e,q6,fm,W5]
    ·simp[bi,oi,qnf e,q6,fm,qnf e2,e2]
  |r t' i f=>
   by_cases e:t' =tg
   ·subst e;simp[bi,oi,W5,q6]
   ·simp[bi,oi,qnf e,q6,fm,e]
 let θ3:TG->Ac:=fun T=>match oi tg T with| .id=>fm t2 tg xs.length 0 T| .kill=> .kill| .to T' =>(match fm t2 tg xs.length 0 T' with| .id=> .to T' |a=>a)| .fz fr u xs=> .fz fr u xs
 have e1:(fun t=>(bu (sbS (oi tg) s.S) t).sb (fm t2 tg xs.length 0))=bu (sbS (q6 t2 tg xs.length 0) (sbS (bi tg) s.S)):=by
  funext t;rw[fv,fv,fv,TV.sb_sb (oi tg) (fm t2 tg xs.length 0) θ3 (fun T=>rfl),TV.sb_sb (bi tg) (q6 t2 tg xs.length 0) θ3 (fun T=>(hcomp T).symm)]
 have e2:cx (fm t2 tg xs.length 0) (cx (oi tg) s.H)=cx (q6 t2 tg xs.length 0) (cx (bi tg) s.H):=by
  rw[qgx (oi tg) (fm t2 tg xs.length 0) θ3 (fun T=>rfl),qgx (bi tg) (q6 t2 tg xs.length 0) θ3 (fun T=>(hcomp T).symm)]
 rw[e2]at he hme;have he' :ARel U w0 J0 K N (fun t=>(bu (sbS (oi tg) s.S) t).sb (fm t2 tg xs.length 0)) _ a w' J'' :=he;rw[e1]at he';refine⟨he',?_⟩;have:=VR.mv hme _ _ hV;simpa[TV.sb,fm,Ko hne]using this
end
end Go.K
namespace Go.K
open Go.M Go.RowKit
variable {F : Nat -> Prop}
theorem qsi(fr:Bool)(u:Ty)(x:u.den)(f:Nat):∀δ:List St,vAps ((u.cells fr x).getD f .any) δ=(u.cells fr x).getD f .any
 |[]=>rfl
 | .sb θ::δ=>by
  simp only[vAps,vAp,Ty.cells_sb];exact qsi fr u x f δ
 | .set t o::δ=>qsi fr u x f δ
 | .new t o::δ=>qsi fr u x f δ
theorem jnp(θ:TG->Ac)(H:List TOb)(n:Nat)(hn:n<=H.length)(o o' :TOb):(cx θ (fq H n o)).set n o' =fq (cx θ H) n o' :=by
 apply KX;intro t;have hl:n<(cx θ (fq H n o)).length:=by
  rw[c7];have:=ko H n o hn n;rw[if_pos rfl]at this;exact(Wh.1 this).1
 rw[ko _ _ _ (by rw[c7];exact hn)];by_cases e:t=n
 ·subst e;rw[if_pos rfl,Wl hl]
 ·rw[if_neg e,WF (Ko e),ij,ij,ko _ _ _ hn,if_neg e]
theorem w9.goes{G G1:Gr}(hw:G1.w=G.w){δ:List St}(hmv:∀A v,VR G A v->VR G1 (vAps A δ) v){sz m:Nat}{src:Nat->Nat->TV}(hfix:∀i f,vAps (src i f) δ=src i f){v:Value}(h:w9 G sz m src v):w9 G1 sz m src v:=by
 obtain⟨sa,c,hv,hc⟩:=h;refine⟨sa,c,hv,fun h0=> ?_⟩;obtain⟨b,o,ha,hcell⟩:=hc h0;refine⟨b,o,ha,fun i f hi hf=> ?_⟩;obtain⟨y,hy,h1,hV⟩:=hcell i f hi hf;have:=hmv _ y hV;rw[hfix]at this;exact⟨y,by rw[hw];exact hy,h1,this⟩
section
variable {U : Nat -> Prop} {w0 : World} {J0 : Pl} {K : Nat -> Bool} {N : Nat} {P : Program} {tt : TT} {R Rf : Type}
theorem jfn{G:Gr}{H:List TOb}(hS:Sees G H){T:TG}{fr:Bool}{v:Ty}{ys:List v.den}(h:jhl H T=some (fr,⟨v,ys⟩)){n sz:Nat}(hI:G.I T=some (n,sz)):
  n=ys.length/\sz=v.sz/\∃vv:Vw,OR G (G.J T) vv/\vv.sz=v.sz/\vv.n=ys.length/\∀i f,f<v.sz->∀y,VR G (vv.cs i f) y->VR G ((v.cells fr (ys.getD i v.dft)).getD f .any) y:=by
 cases T with
 |o t=>
  simp only[jhl]at h;split at h
  ·rename_i ty fr0 its u xs ho;simp only[Wb,Wj,Sigma.mk.injEq]at h;obtain⟨rfl,rfl,hx⟩:=h;have hx:=HU hx;subst hx;obtain⟨h1,h2⟩:=hS.see _ _ (az ho);rw[hI]at h1;simp only[Wb,Wj]at h1;refine⟨h1.1,h1.2,_,h2,rfl,rfl,fun i f hf y hy=> ?_⟩;have hy:VR G (b7 t (.fz fr0) u xs i f) y:=hy;rw[ns,<-Ty.C_iff _ _ _ _ _ _ hf]at hy;rw[<-Ty.C_iff _ _ _ _ _ _ hf];exact Ty.C_fl (fun e=>by simpa using e) hy
  ·cases h
 |r t i0 f0=>
  obtain⟨ob,ho,hng⟩:=jto h;obtain⟨vv,hvv⟩:=hS.all t i0 f0 ob ho hng _ hI;obtain⟨rfl,e1,e2,e3⟩:=jtp h hvv;obtain⟨h1,h2⟩:=hS.see _ _ hvv;rw[hI]at h1;simp only[Wb,Wj]at h1;exact⟨by omega,by omega,vv,h2,e1,e2,fun i f hf y hy=>by rw[e3]at hy;exact hy⟩
theorem jt0{X:Ctx Rf}(hK:∀t,bt X.kp t=false->K t=false){s:TS}{a:Act}{w:World}{J:Pl}(hr:dr U w0 J0 K N s a w J){Hv:List TOb}(hl:HLe F Hv s.H){u:Ty}{x:TV}{δ:List St}{fr' :Bool}{ys:List u.den}(h:j3u X Hv u x=some (δ,fr',ys))
  {sv:Value} (hv:VR (gr U (vw s.H) w J) x sv):∃J1,dr U w0 J0 K N (s.aps δ) a w J1/\HLe F (jt Hv δ) (s.aps δ).H/\(∀A v,VR (gr U (vw s.H) w J) A v->VR (gr U (vw (s.aps δ).H) w J1) (vAps A δ) v)/\
   w9 (gr U (vw (s.aps δ).H) w J1) u.sz ys.length (fun i f=>(u.cells fr' (ys.getD i u.dft)).getD f .any) sv:=by
 have stay:∀ys:List u.den,w9 (gr U (vw s.H) w J) u.sz ys.length (fun i f=>(u.cells fr' (ys.getD i u.dft)).getD f .any) sv->∃J1,dr U w0 J0 K N (s.aps []) a w J1/\HLe F (jt Hv []) (s.aps []).H/\(∀A v,VR (gr U (vw s.H) w J) A v->VR (gr U (vw (s.aps []).H) w J1) (vAps A []) v)/\
   w9 (gr U (vw (s.aps []).H) w J1) u.sz ys.length (fun i f=>(u.cells fr' (ys.getD i u.dft)).getD f .any) sv:=fun ys hs=>⟨J,hr,hl,fun A v hv=>hv,hs⟩
 have hS:=hl.sees hr.hr;unfold j3u at h;split at h
 ·rename_i fr v zs;split at h
  ·rename_i he _;subst he;simp only[Wb,Wj]at h;obtain⟨rfl,rfl,rfl⟩:=h;refine stay _ ((w9.of_sl hv).mono fun i f hi hf y hy=> ?_);rw[<-Ty.C_iff _ _ _ _ _ _ hf]at hy⊢;exact Ty.C_fl (fun e=>by simpa using e) hy
  ·cases h
 ·simp only[Wb,Wj]at h;obtain⟨rfl,rfl,rfl⟩:=h;have hv:sv= .slice none 0 0:=hv;exact stay _ ⟨none,0,hv,fun h0=>by simp at h0⟩
 ·simp only[Wb,Wj]at h;obtain⟨rfl,rfl,rfl⟩:=h;obtain⟨b,hv⟩:=hv;exact stay _ ⟨b,0,hv,fun h0=>by simp at h0⟩
 ·rename_i t;split at h
  ·rename_i ty sz n cs ho;split at h
   ·rename_i δ1 hd;split at h
    ·rename_i ty' sz' n' cs' ho';obtain⟨hb,h⟩:=ai h;simp only[Wc]at hb;split at h
     ·rename_i ys' g hpk;simp only[Wb,Wj]at h;obtain⟨rfl,rfl,rfl⟩:=h;obtain⟨hg,hl1⟩:=qjs (U:=U) (w0:=w0) (J0:=J0) (K:=K) (N:=N) hK _ Hv s δ1 hl hd;obtain⟨J1,hr1,hmv⟩:=hg a w J hr;have hl1' :HLe F (jt Hv δ1) (s.aps δ1).H:=by rw[qol];exact hl1
      have hfix:=qq8 _ Hv δ1 t hd (fun hgone=>by have:=hgone _ ho';cases this);have hv1:=hmv _ _ hv;rw[hfix.own]at hv1;obtain⟨n1,sz1,hI,hsl⟩:=hv1;obtain⟨h1,h2⟩:=(hl1'.sees hr1.hr).see _ _ (qfs ho');rw[hI]at h1;simp only[Wb,Wj]at h1;obtain⟨rfl,rfl⟩:=h1;have e1:=ax hb.1;have e2:=ax hb.2;obtain⟨q1,q2,q3⟩:=Ty.packN_ok (G:=gr U (vw (s.aps δ1).H) w J1) hpk;refine⟨J1,hr1,hl1',hmv,?_⟩;have hs:=w9.of_row h2 (off:=0) (m:=n1) (by simp) hsl;have e3:n1=ys'.length:=by rw[q1,<-e1]
      rw[e2]at hs;rw[<-e3];refine hs.mono fun i f hi hf y hy=> ?_
      rw[<-Ty.C_iff _ _ _ _ _ _ hf];refine Ty.C_fl (fun e=>by simpa using e) (q3 i f (by omega) hf y ?_);simp only[WR]at hy
      first|exact hy|(rw[e2]at hy;exact hy)
     ·cases h
    ·cases h
   ·cases h
  ·rename_i ty its v zs ho;obtain⟨hb,h⟩:=ai h;split at h
   ·rename_i he _;subst he;simp only[Wb,Wj]at h;obtain⟨rfl,rfl,rfl⟩:=h;obtain⟨J1,hr1,hmv⟩:=jkf (U:=U) (w0:=w0) (J0:=J0) (K:=K) (N:=N) (s:=s) hl (t:=t) a w J hr;have hl1' :HLe F (jt Hv (qeg Hv t)) (s.aps (qeg Hv t)).H:=by rw[qol];exact jke hl t
    have hv1:=hmv _ _ hv;rw[(q3p Hv t t).own]at hv1;obtain⟨n1,sz1,hI,hsl⟩:=hv1;have ho1:(jt Hv (qeg Hv t))[t]? =some (.arr ty (.fz true) its v zs):=by
     unfold qeg;simp only[ho,jt,hAp];exact Wl (by rw[c7];exact(Wh.1 ho).1)
    obtain⟨h1,h2⟩:=(hl1'.sees hr1.hr).see _ _ (az ho1);rw[hI]at h1;simp only[Wb,Wj]at h1;obtain⟨rfl,rfl⟩:=h1;refine⟨J1,hr1,hl1',hmv,?_⟩;have hs:=w9.of_row h2 (off:=0) (m:=zs.length) (by simp) hsl;refine hs.mono fun i f hi hf y hy=> ?_
    have hy:VR _ (b7 t (.fz true) v zs (0+i) f) y:=hy;rw[ns,WR]at hy;exact hy
   ·cases h
  ·rename_i ty fr its v zs ho;split at h
   ·rename_i he _;subst he;simp only[Wb,Wj]at h;obtain⟨rfl,rfl,rfl⟩:=h;obtain⟨n1,sz1,hI,hsl⟩:=hv;obtain⟨rfl,rfl,vv,h2,e1,e2,e3⟩:=jfn hS (T:= .o t) (fr:=fr||v.flat) (v:=v) (ys:=zs) (by simp only[jhl,ho]) hI;have hs:=w9.of_row h2 (off:=0) (m:=zs.length) (by omega) (by rw[e1];exact hsl);rw[e1]at hs;refine stay _ (hs.mono fun i f hi hf y hy=> ?_);simp only[WR]at hy;exact e3 i f hf y hy
   ·cases h
  ·cases h
 ·rename_i T hne;split at h
  ·rename_i fr v zs hrow;split at h
   ·rename_i he _;subst he;simp only[Wb,Wj]at h;obtain⟨rfl,rfl,rfl⟩:=h;obtain⟨n1,sz1,hI,hsl⟩:=hv;obtain⟨rfl,rfl,vv,h2,e1,e2,e3⟩:=jfn hS hrow hI;have hs:=w9.of_row h2 (off:=0) (m:=zs.length) (by omega) (by rw[e1];exact hsl);rw[e1]at hs;refine stay _ (hs.mono fun i f hi hf y hy=> ?_);simp only[WR]at hy;exact e3 i f hf y hy
   ·cases h
  ·cases h
 ·rename_i T off n;split at h
  ·rename_i fr v zs hrow;split at h
   ·rename_i he _;subst he;obtain⟨hfl,h⟩:=ai h;simp only[Wb,Wj]at h;obtain⟨rfl,rfl,hys⟩:=h;obtain⟨n1,sz1,hI,hle,hsl⟩:=hv;obtain⟨rfl,rfl,vv,h2,e1,e2,e3⟩:=jfn hS hrow hI;have hs:=w9.of_row h2 (off:=off) (m:=n) (by omega) (by rw[e1];exact hsl);rw[e1]at hs;have hys:(zs.drop off).take n=ys:=hys;have hlen:n=ys.length:=by rw[<-hys];simp;omega
    refine stay _ ?_;rw[<-hlen];refine hs.mono fun i f hi hf y hy=> ?_
    have:=e3 (off+i) f hf y hy;have e:ys.getD i v.dft=zs.getD (off+i) v.dft:=by
     rw[<-hys];simp only[Wa,WZ,if_pos hi,WI]
    rw[e];exact this
   ·cases h
  ·cases h
 ·cases h
theorem j1b(hF:dq P tt){X:Ctx Rf}(hK:∀t,bt X.kp t=false->K t=false){st ty el:TypeId}{u:Ty}{ei:TI}(hE:ElOK tt st el u ei){s:TS}{a:Act}{w:World}{J:Pl}(hr:dr U w0 J0 K N s a w J){Hv:List TOb}(hl:HLe F Hv s.H){d:TV}{fr' :Bool}{ys:List u.den}
  {k:List St->TV->Option R} {r:R} (h:jui X el u ei d Hv fr' ys k=some r) {vd sv:Value} (hd:VR (gr U (vw s.H) w J) d vd) (hs:w9 (gr U (vw s.H) w J) u.sz ys.length (fun i f=>(u.cells fr' (ys.getD i u.dft)).getD f .any) sv) (hn:K Hv.length=false) (hnew:∀δ v,k δ v=some r->∀t o,St.new t o∈δ->F t):
  ∃δ T,k δ (.own T)=some r/\qsm P U w0 J0 K N (s.aps δ) T a w st ty vd sv:=by
 have nil:F Hv.length->SlR w J (.o Hv.length) u.sz 0 0 vd->room ys.length ei.bytes=true->qsm P U w0 J0 K N (s.aps [.sb (bi Hv.length), .new Hv.length (.arr el (.fz fr') (gh X.tt el) u ys)]) (.o Hv.length) a w st ty vd sv:=by
  intro hfp hsl hroom;obtain⟨hr1,hmv,_⟩:=hr.pushNil (hl.free _ (Wg _) hfp) hl.len el (.fz true) (gh X.tt el) u;have ho1:(fq s.H Hv.length (.arr el (.fz true) (gh X.tt el) u []))[Hv.length]? =some (.arr el (.fz true) (gh X.tt el) u []):=by rw[ko _ _ _ hl.len,if_pos rfl]
  have hs1:=w9.goes (G:=gr U (vw s.H) w J) (G1:=gr U (vw (fq s.H Hv.length (.arr el (.fz true) (gh X.tt el) u []))) w J) (δ:=[]) rfl hmv (fun i f=>rfl) hs;have:=jjx (st:=st) (ty:=ty) (s:=⟨s.S,fq s.H Hv.length (.arr el (.fz true) (gh X.tt el) u [])⟩) hF hr1 hE ho1 hn (off:=0) (n:=0) hsl (by simp) hs1 (by simpa using hroom);have e:(cx (bi Hv.length) (fq s.H Hv.length (.arr el (.fz true) (gh X.tt el) u []))).set Hv.length (.arr el (.fz (true&&fr')) (gh X.tt el) u ((([]:List u.den).drop 0).take 0++ys))=fq (cx (bi Hv.length) s.H) Hv.length (.arr el (.fz fr') (gh X.tt el) u ys):=jnp _ _ _ hl.len _ _;rw[show(TS.mk s.S (fq s.H Hv.length (.arr el (.fz true) (gh X.tt el) u []))).H=fq s.H Hv.length (.arr el (.fz true) (gh X.tt el) u [])from rfl,e]at this;exact this
 unfold jui at h;split at h
 ·have hroom:=(cr h).1
  replace h:=(cr h).2
  have hd:vd= .slice none 0 0:=hd;exact⟨_,_,h,nil (hnew _ _ h _ _ (by simp;rfl)) (.inl ⟨none,hd,rfl⟩) hroom⟩
 ·have hroom:=(cr h).1
  replace h:=(cr h).2
  obtain⟨b,hd⟩:=hd;exact⟨_,_,h,nil (hnew _ _ h _ _ (by simp;rfl)) (.inl ⟨b,hd,rfl⟩) hroom⟩
 ·rename_i tg;split at h
  ·rename_i ty0 md its u2 xs hov;have ho:=hl.ob hov;split at h
   ·rename_i h2 _;cases h2;have hb:=(ai h).1
    replace h:=(ai h).2
    simp only[Wc,WE]at hb;have e1:=ax hb.1;subst e1;split at h
    ·rename_i fr;have hroom:=(cr h).1
     replace h:=(cr h).2
     obtain⟨n1,sz1,hI,hsl⟩:=hd;have hI' :aj (vw s.H) (.o tg)=some (n1,sz1):=hI;simp only[aj,az ho,Wd,Wb,Wj]at hI';obtain⟨rfl,rfl⟩:=hI';have:=jjx (st:=st) (ty:=ty) hF hr hE ho (hK tg hb.2) (off:=0) hsl (by simp) hs hroom;simp only[K3,WW]at this;exact⟨_,_,h,this⟩
    ·have hb2:=(ai h).1
     replace h:=(ai h).2
     have hroom:=(cr h).1
     replace h:=(cr h).2
     obtain⟨J1,hr1,hmv⟩:=jkf (U:=U) (w0:=w0) (J0:=J0) (K:=K) (N:=N) (s:=s) hl (t:=tg) a w J hr;have hd1:=hmv _ _ hd;rw[(q3p Hv tg tg).own]at hd1;have ho1:(s.aps (qeg Hv tg)).H[tg]? =some (.arr ty0 (.fz true) its u xs):=by
      rw[qol];unfold qeg;simp only[hov,jt,hAp];exact Wl (by rw[c7];exact(Wh.1 ho).1)
     obtain⟨n1,sz1,hI,hsl⟩:=hd1;have hI' :aj (vw (s.aps (qeg Hv tg)).H) (.o tg)=some (n1,sz1):=hI;simp only[aj,az ho1,Wd,Wb,Wj]at hI';obtain⟨rfl,rfl⟩:=hI';have hs1:=w9.goes (G:=gr U (vw s.H) w J) (G1:=gr U (vw (s.aps (qeg Hv tg)).H) w J1) (δ:=qeg Hv tg) rfl hmv (fun i f=>qsi _ _ _ _ _) hs;have:=jjx (st:=st) (ty:=ty) hF hr1 hE ho1 (hK tg hb.2) (off:=0) hsl (by simp) hs1 hroom;simp only[K3,WW]at this;exact⟨_,_,h,by rw[qja];exact this⟩
    ·cases h
   ·cases h
  ·cases h
 ·rename_i tg off n;split at h
  ·rename_i ty0 fr its u2 xs hov;have ho:=hl.ob hov;split at h
   ·rename_i h2 _;cases h2;have hb:=(ai h).1
    replace h:=(ai h).2
    simp only[Wc,WE]at hb;have e1:=ax hb.1;subst e1;have hroom:=(cr h).1
    replace h:=(cr h).2
    obtain⟨n1,sz1,hI,hle,hsl⟩:=hd;have hI' :aj (vw s.H) (.o tg)=some (n1,sz1):=hI;simp only[aj,az ho,Wd,Wb,Wj]at hI';obtain⟨rfl,rfl⟩:=hI';exact⟨_,_,h,jjx (st:=st) (ty:=ty) hF hr hE ho (hK tg hb.2) hsl hle hs hroom⟩
   ·cases h
  ·cases h
 ·rename_i tg i f;split at h
  ·rename_i ty0 its u2 xs hov;have ho:=hl.ob hov;split at h
   ·rename_i v zs hin;split at h
    ·rename_i h2 _;cases h2;have hb:=(ai h).1
     replace h:=(ai h).2
     simp only[Wc]at hb;obtain⟨hb1,hb2⟩:=hb;subst hb2;split at h
     ·rename_i x' hset;have hroom:=(cr h).1
      replace h:=(cr h).2
      exact⟨_,_,h,j1e (st:=st) (ty:=ty) hF hr hE ho hin (ax hb1) hd hs hset hroom⟩
     ·cases h
    ·cases h
   ·cases h
  ·rename_i kt v ety es hov;have ho:=hl.obo hov;split at h
   ·rename_i h2 _;cases h2;have hb:=(ai h).1
    replace h:=(ai h).2
    simp only[Wc]at hb;obtain⟨⟨hb1,hb2⟩,hb3⟩:=hb;have e1:=ax hb1;have e3:=ax hb3;subst e1;subst e3;subst hb2;have hc:=(bn h).1
    replace h:=(bn h).2
    exact⟨_,_,h,j65 (st:=st) (ty:=ty) hF hr hE ho (cm (hc _ (Wf ..))) hd hs (hc _ (We _ (Wf ..)))⟩
   ·cases h
  ·cases h
 ·cases h
theorem jr7(hF:dq P tt){X:Ctx Rf}(hK:∀t,bt X.kp t=false->K t=false){st ty el:TypeId}{u:Ty}{ei:TI}(hE:ElOK tt st el u ei){s:TS}{a:Act}{w:World}{J:Pl}(hr:dr U w0 J0 K N s a w J){Hv:List TOb}(hl:HLe F Hv s.H){d:TV}{cells:List TV}{src:Src u}(hsrc:zar X Hv el u cells=some src)
  {k:List St->TV->Option R} {r:R} (h:(match src with| .row t2 x=>jjv X el u ei d Hv (some t2) x k| .nils x=>jjv X el u ei d Hv none x k)=some r) {vd sv:Value} (hd:VR (gr U (vw s.H) w J) d vd) (hs:w9 (gr U (vw s.H) w J) u.sz 1 (fun i f=>cells.getD (i*u.sz+f) .any) sv) (hn:K Hv.length=false) (hnew:∀δ v,k δ v=some r->∀t o,St.new t o∈δ->F t):
  ∃δ T,k δ (.own T)=some r/\qsm P U w0 J0 K N (s.aps δ) T a w st ty vd sv:=by
 unfold zar at hsrc;split at hsrc
 ·cases hsrc
 ·cases hb:jn8 (u.cells true u.dft) cells with
  |true=>
   rw[hb]at hsrc;simp only[WQ]at hsrc;split at hsrc
   ·rename_i x g hpk;cases hsrc;simp only[jjv]at h;split at h
    ·have hroom:=(cr h).1
     replace h:=(cr h).2
     have hd:vd= .slice none 0 0:=hd;obtain⟨hr1,hmv,_⟩:=hr.pushNil (hl.free _ (Wg _) (hnew _ _ h _ _ (by simp;rfl))) hl.len el .own (gh X.tt el) u;have ho1:(fq s.H Hv.length (.arr el .own (gh X.tt el) u []))[Hv.length]? =some (.arr el .own (gh X.tt el) u []):=by rw[ko _ _ _ hl.len,if_pos rfl]
     have hs1:=w9.goes (G:=gr U (vw s.H) w J) (G1:=gr U (vw (fq s.H Hv.length (.arr el .own (gh X.tt el) u []))) w J) (δ:=[]) rfl hmv (fun i f=>rfl) hs;have:=jmu (st:=st) (ty:=ty) (s:=⟨s.S,fq s.H Hv.length (.arr el .own (gh X.tt el) u [])⟩) hF hr1 hE ho1 hn (vd:=vd) (.inl ⟨none,hd,rfl⟩) hb hpk hs1 hroom;have e:(cx (bi Hv.length) (fq s.H Hv.length (.arr el .own (gh X.tt el) u []))).set Hv.length (.arr el .own (gh X.tt el) u ([]++[x]))=fq (cx (bi Hv.length) s.H) Hv.length (.arr el .own (gh X.tt el) u [x]):=jnp _ _ _ hl.len _ _;rw[show(TS.mk s.S (fq s.H Hv.length (.arr el .own (gh X.tt el) u []))).H=fq s.H Hv.length (.arr el .own (gh X.tt el) u [])from rfl,e]at this;exact⟨_,_,h,this⟩
    ·rename_i tg;split at h
     ·rename_i ty0 its u2 xs hov;have ho:=hl.ob hov;split at h
      ·rename_i h2 _;cases h2;have hb2:=(ai h).1
       replace h:=(ai h).2
       simp only[Wc,WE]at hb2;have e1:=ax hb2.1;subst e1;have hroom:=(cr h).1
       replace h:=(cr h).2
       obtain⟨n1,sz1,hI,hsl⟩:=hd;have hI' :aj (vw s.H) (.o tg)=some (n1,sz1):=hI;simp only[aj,az ho,Wd,Wb,Wj]at hI';obtain⟨rfl,rfl⟩:=hI';exact⟨_,_,h,jmu (st:=st) (ty:=ty) hF hr hE ho (hK tg hb2.2) hsl hb hpk hs hroom⟩
      ·cases h
     ·cases h
    ·cases h
   ·cases hsrc
  |false=>
   rw[hb]at hsrc;simp only[W9]at hsrc;split at hsrc
   ·rename_i v t2 _ _;split at hsrc
    ·rename_i ty2 fr2 its2 v2 ys hov2;have ho2:=hl.ob hov2;split at hsrc
     ·rename_i h2 _;cases h2;have hb3:=(ai hsrc).1
      replace hsrc:=(ai hsrc).2
      simp only[Wc,WE]at hb3;obtain⟨⟨hb31,hb32⟩,hb33⟩:=hb3;cases hsrc;have hlt2:t2<Hv.length:=(Wh.1 hov2).1;simp only[jjv]at h;split at h
      ·have hroom:=(cr h).1
       replace h:=(cr h).2
       have hd:vd= .slice none 0 0:=hd;obtain⟨hr1,hmv,_⟩:=hr.pushNil (hl.free _ (Wg _) (hnew _ _ h _ _ (by simp;rfl))) hl.len el .own (gh X.tt el) (.slice v);have ho1:(fq s.H Hv.length (.arr el .own (gh X.tt el) (.slice v) []))[Hv.length]? =some (.arr el .own (gh X.tt el) (.slice v) []):=by rw[ko _ _ _ hl.len,if_pos rfl]
       have ho12:(fq s.H Hv.length (.arr el .own (gh X.tt el) (.slice v) []))[t2]? =some (.arr ty2 (.fz fr2) its2 v ys):=by rw[ko _ _ _ hl.len,if_neg (by omega)];exact ho2
       have hs1:=w9.goes (G:=gr U (vw s.H) w J) (G1:=gr U (vw (fq s.H Hv.length (.arr el .own (gh X.tt el) (.slice v) []))) w J) (δ:=[]) rfl hmv (fun i f=>rfl) hs;have:=jr8 (st:=st) (ty:=ty) (s:=⟨s.S,fq s.H Hv.length (.arr el .own (gh X.tt el) (.slice v) [])⟩) hF hr1 hE ho1 hn ho12 (by omega) hb32 (ax hb33) (hK t2 hb31) (vd:=vd) (.inl ⟨none,hd,rfl⟩) hs1 hroom;refine⟨_,_,h,?_⟩;have e:((cx (q6 t2 Hv.length 0 0) (cx (bi Hv.length) (fq s.H Hv.length (.arr el .own (gh X.tt el) (.slice v) [])))).set Hv.length (.arr el .own (gh X.tt el) (.slice v) ([]++[ys]))).set t2 .gone=fq ((cx (q6 t2 Hv.length 0 0) (cx (bi Hv.length) s.H)).set t2 .gone) Hv.length (.arr el .own (gh X.tt el) (.slice v) [ys]):=by
        apply KX;intro t;have hl2:Hv.length<=((cx (q6 t2 Hv.length 0 0) (cx (bi Hv.length) s.H)).set t2 .gone).length:=by rw[WB,c7,c7];exact hl.len
        have hl3:Hv.length<(cx (q6 t2 Hv.length 0 0) (cx (bi Hv.length) (fq s.H Hv.length (.arr el .own (gh X.tt el) (.slice v) [])))).length:=by rw[c7,c7];exact(Wh.1 ho1).1
        rw[ko _ _ _ hl2];by_cases e:t=t2
        ·subst e;rw[if_neg (by omega),Wl (by rw[WB];omega),Wl (by rw[c7,c7];exact(Wh.1 ho2).1)]
        ·rw[WF (Ko e)];by_cases e2:t=Hv.length
         ·subst e2;rw[if_pos rfl,Wl hl3];rfl
         ·rw[if_neg e2,WF (Ko e2),WF (Ko e),ij,ij,ij,ij,ko _ _ _ hl.len,if_neg e2]
       have this' :qsm P U w0 J0 K N ⟨sbS (q6 t2 Hv.length 0 0) (sbS (bi Hv.length) s.S),_⟩ (.o Hv.length) a w st ty vd sv:=this;rw[show(TS.mk s.S (fq s.H Hv.length (.arr el .own (gh X.tt el) (.slice v) []))).H=fq s.H Hv.length (.arr el .own (gh X.tt el) (.slice v) [])from rfl]at this';have e' :=e;rw[show([]:List (Ty.slice v).den).length=0 from rfl]at this';exact(W0 (fun Z=>qsm P U w0 J0 K N ⟨sbS (q6 t2 Hv.length 0 0) (sbS (bi Hv.length) s.S),Z⟩ (.o Hv.length) a w st ty vd sv) e).mp this'
      ·rename_i tg;split at h
       ·rename_i ty0 its u2 xs hov;have ho:=hl.ob hov;split at h
        ·rename_i h2 _;cases h2;have hb2:=(ai h).1
         replace h:=(ai h).2
         simp only[Wc,WE]at hb2;have e1:=ax hb2.1;subst e1;have hb4:=(ai h).1
         replace h:=(ai h).2
         simp only[Wc,WE]at hb4;have hroom:=(cr h).1
         replace h:=(cr h).2
         obtain⟨n1,sz1,hI,hsl⟩:=hd;have hI' :aj (vw s.H) (.o tg)=some (n1,sz1):=hI;simp only[aj,az ho,Wd,Wb,Wj]at hI';obtain⟨rfl,rfl⟩:=hI';exact⟨_,_,h,jr8 (st:=st) (ty:=ty) hF hr hE ho (hK tg hb2.2) ho2 (fun e=>by rw[e,W5]at hb4;exact absurd hb4.1 (by simp)) hb32 ((ax hb33).trans (ax hb4.2).symm) (hK t2 hb31) hsl hs hroom⟩
        ·cases h
       ·cases h
      ·cases h
     ·cases hsrc
    ·cases hsrc
   ·cases hsrc
theorem j1c(hF:dq P tt){X:Ctx Rf}(hK:∀t,bt X.kp t=false->K t=false){st ty el:TypeId}{u:Ty}{ei:TI}(hE:ElOK tt st el u ei){s:TS}{a:Act}{w:World}{J:Pl}(hr:dr U w0 J0 K N s a w J){Hv:List TOb}(hl:HLe F Hv s.H){d x:TV}
  {k:List St->TV->Option R} {r:R} (h:jjw X el u ei d x Hv k=some r) {vd sv:Value} (hd:VR (gr U (vw s.H) w J) d vd) (hv:VR (gr U (vw s.H) w J) x sv) (hn:∀t,Hv.length<=t->K t=false) (hnew:∀δ v,k δ v=some r->∀t o,St.new t o∈δ->F t):
  ∃δ T,k δ (.own T)=some r/\qsm P U w0 J0 K N (s.aps δ) T a w st ty vd sv:=by
 have dat:∀x,VR (gr U (vw s.H) w J) x sv->qqy X el u ei d x Hv k=some r->∃δ T,k δ (.own T)=some r/\qsm P U w0 J0 K N (s.aps δ) T a w st ty vd sv:=by
  intro x hv h;unfold qqy at h;split at h
  ·rename_i δ fr' ys hsrc;obtain⟨J1,hr1,hl1,hmv,hs⟩:=jt0 hK hr hl hsrc hv;have hlen:∀(δ:List St) (H:List TOb),H.length<=(jt H δ).length:=by
    intro δ
    induction δ with
    |nil=>intro H;exact Wg _
    |cons y δ ih=>
     intro H;refine Kb ?_ (ih (hAp H y));cases y with
     |sb θ=>simp only[hAp,c7];exact Wg _
     |set t o=>simp[hAp]
     |new t o=>
      simp only[hAp,fq];cases Nat.blt t H.length<;>simp
   obtain⟨δ',T,hk,hap⟩:=j1b (st:=st) (ty:=ty) hF hK hE hr1 hl1 h (hmv _ _ hd) hs (hn _ (hlen δ Hv)) (fun δ' v hk t o hm=>hnew _ _ hk t o (WS.2 (.inr hm)));exact⟨_,_,hk,by rw[qja];exact hap⟩
  ·cases h
 unfold jjw at h;split at h
 ·rename_i t;split at h
  ·rename_i ty0 sz n cs hov;cases hb:j4d Hv d&&Nat.beq n 1&&Nat.beq sz u.sz with
   |false=>rw[hb]at h;exact dat _ hv h
   |true=>
    rw[hb]at h;simp only[WQ]at h;simp only[Wc]at hb;have e1:=ax hb.1.2;have e2:=ax hb.2;subst e1;have hsrcR:w9 (gr U (vw s.H) w J) u.sz 1 (fun i f=>cs.getD (i*u.sz+f) .any) sv:=by
     obtain⟨n1,sz1,hI,hsl⟩:=hv;obtain⟨h1,h2⟩:=(hl.sees hr.hr).see _ _ (qfs hov);rw[hI]at h1;simp only[Wb,Wj]at h1;obtain⟨rfl,rfl⟩:=h1;have hs:=w9.of_row h2 (off:=0) (m:=1) (by simp) hsl;rw[e2]at hs;refine hs.mono fun i f hi hf y hy=> ?_
     simp only[WR]at hy;exact hy
    split at h
    ·rename_i t2 x hsrc;exact jr7 (st:=st) (ty:=ty) hF hK hE hr hl hsrc h hd hsrcR (hn _ (Wg _)) hnew
    ·rename_i x hsrc;exact jr7 (st:=st) (ty:=ty) hF hK hE hr hl hsrc h hd hsrcR (hn _ (Wg _)) hnew
    ·exact dat _ hv h
  ·exact dat _ hv h
 ·exact dat _ hv h
end
end Go.K
namespace Go.K
open Go.M Go.RowKit
variable {F : Nat -> Prop}
section
variable {U : Nat -> Prop} {w0 : World} {J0 : Pl} {K : Nat -> Bool} {N : Nat} {P : Program} {tt : TT} {R Rf : Type}
def qq(P:Program)(U:Nat->Prop)(w0:World)(J0:Pl)(K:Nat->Bool)(N:Nat)(o:Oper)(s:TS)(a:Act)(w:World)(k:List St->TV->Option R)(r:R):Prop:=
 ∃δ v,k δ v=some r/\∀(Q:Exit->Act->World->Prop) (KK:Act->World->Prop),(∀a' w' J',dr U w0 J0 K N ((s.aps δ).put o.dst v) a' w' J' ->KK a' w')->o.wp P a w KK Q
theorem qq.val{o:Oper}{s:TS}{a:Act}{w w' :World}{J' :Pl}{k:List St->TV->Option R}{r:R}{δ:List St}{v:TV}{u:Value}(hk:k δ v=some r)(hrun:(execOp a.eval o).run P w= .ok (.value u) w')(hr:dr U w0 J0 K N (s.aps δ) a w' J')
  (hv:VR (gr U (vw (s.aps δ).H) w' J') v u):qq P U w0 J0 K N o s a w k r:=by
 refine⟨δ,v,hk,fun Q KK h=> ?_⟩;unfold Oper.wp;rw[hrun];exact h _ _ _ (hr.put o.dst hv)
theorem jd8{o:Oper}{s:TS}{a:Act}{w w1:World}{J:Pl}(hr:dr U w0 J0 K N s a w J){Hv:List TOb}(hl:HLe F Hv s.H)(hn:K Hv.length=false){k:List St->TV->Option R}{r:R}(hnew:∀δ v,k δ v=some r->∀t o,St.new t o∈δ->F t){ob:TOb}{v:TV}{u:Value}{bl:Obj}(hk:k [.new Hv.length ob] v=some r)
  (hrun:(execOp a.eval o).run P w1= .ok (.value u) (w.alloc bl))
  (hobj:∀G',G' =gr U (vw (fq s.H Hv.length ob)) (w.alloc bl) (fun T=>if T= .o Hv.length then some (w.heap.size,0)else J T)->Mv (fun _=> .id) (gr U (vw s.H) w J) G' ->∀T v,T.ob=Hv.length->vw (fq s.H Hv.length ob) T=some v->OR G' (if T= .o Hv.length then some (w.heap.size,0)else none) v)
  (hdom:∃v,vw (fq s.H Hv.length ob) (.o Hv.length)=some v)
  (hv:∀G',G' =gr U (vw (fq s.H Hv.length ob)) (w.alloc bl) (fun T=>if T= .o Hv.length then some (w.heap.size,0)else J T)->VR G' v u):qq P U w0 J0 K N o s a w1 k r:=by
 obtain⟨hr1,_⟩:=hr.alloc (hl.free _ (Wg _) (hnew _ _ hk _ _ (by simp;rfl))) hl.len hn ob bl hobj hdom;exact qq.val (J' :=fun T=>if T= .o Hv.length then some (w.heap.size,0)else J T) hk hrun hr1 (hv _ rfl)
theorem jqz{o:Oper}{s:TS}{a:Act}{w:World}{J:Pl}(hr:dr U w0 J0 K N s a w J){Hv:List TOb}(hl:HLe F Hv s.H)(hn:K Hv.length=false){k:List St->TV->Option R}{r:R}(hnew:∀δ v,k δ v=some r->∀t o,St.new t o∈δ->F t){v:TV}{u:Value}{cells:Array Value}{ty:TypeId}{sz n:Nat}{cs:List TV}
  (hk:k [.new Hv.length (.cs ty sz n cs)] v=some r) (hrun:(execOp a.eval o).run P w= .ok (.value u) (w.alloc (.cells cells ty))) (hcs:mm (gr U (vw s.H) w J) cells.toList cs) (hlen:cs.length=n*sz) (hp0:0<sz\/0<n)
  (hv:∀G',G'.J (.o Hv.length)=some (w.heap.size,0)->G'.I (.o Hv.length)=some (n,sz)->G'.w=w.alloc (.cells cells ty)->VR G' v u):qq P U w0 J0 K N o s a w k r:=by
 have hat:(fq s.H Hv.length (.cs ty sz n cs))[Hv.length]? =some (.cs ty sz n cs):=by rw[ko _ _ _ hl.len,if_pos rfl]
 refine jd8 hr hl hn hnew hk hrun (fun G' hG m T v hT hv=> ?_) ⟨_,qfs hat⟩ (fun G' hG=>hv G' (by rw[hG];simp[gr]) (by rw[hG];simp[gr,aj,qfs hat]) (by rw[hG];rfl));cases T with
 |r t i f=>simp only[TG.ob]at hT;subst hT;simp[vw,hat,vwR]at hv
 |o t=>
  simp only[TG.ob]at hT;subst hT;rw[qfs hat]at hv;cases hv;rw[if_pos rfl];refine .inl ⟨hp0,cells,n,by rw[hG];exact KM w _,by rw[<-WO,hcs.1.len,hlen];simp,Wg _,fun i f hi hf=> ?_⟩;have hj:i*sz+f<cs.length:=by
   have:(i+1)*sz<=n*sz:=WC _ hi;rw[WM]at this;simp only[]at hf;omega
  obtain⟨x,hx,hV⟩:=hcs.1.getD (i*sz+f) hj;refine⟨x,by simpa using hx,hcs.2 x (WV hx),?_⟩;have:=VR.mv m _ x hV;rwa[TV.sb_id]at this
theorem q6r:∀(cs:List TV) (z:List Value),q6q cs z=true->cs.length=z.length/\∀(f:Nat) u,z[f]? =some u->(∀G,VR G (cs.getD f .any) u)/\∀fr v ys,cs.getD f .any= .sl fr v ys->ys=[]/\u= .slice none 0 0:=by
 intro cs z;have step:∀(A:TV) (u0:Value) (l:List TV) (l' :List Value),(l.length=l'.length/\∀(f:Nat) u,l'[f]? =some u->(∀G,VR G (l.getD f .any) u)/\∀fr v ys,l.getD f .any= .sl fr v ys->ys=[]/\u= .slice none 0 0)->
   ((∀G,VR G A u0)/\∀fr v ys,A= .sl fr v ys->ys=[]/\u0= .slice none 0 0)->
   (A::l).length=(u0::l').length/\∀(f:Nat) u,(u0::l')[f]? =some u->(∀G,VR G ((A::l).getD f .any) u)/\∀fr v ys,(A::l).getD f .any= .sl fr v ys->ys=[]/\u= .slice none 0 0:=by
  intro A u0 l l' ⟨h1,h2⟩ h3;refine⟨by simp[h1],fun f u hu=> ?_⟩;cases f with
  |zero=>simp only[List.getElem?_cons_zero,Wb]at hu;subst hu;exact h3
  |succ f=>exact h2 f u (by simpa using hu)
 fun_induction q6q cs z with
 |case1=>exact fun _=>⟨rfl,fun f u hu=>by simp at hu⟩
 |case2 k n l k' m l' ih=>
  intro h;simp only[Wc,WH]at h;obtain⟨⟨rfl,rfl⟩,h⟩:=h;exact step _ _ _ _ (ih h) ⟨fun G=>rfl,fun fr v ys e=>by cases e⟩
 |case3 b l b' l' ih=>
  intro h;simp only[Wc,beq_iff_eq]at h;obtain⟨rfl,h⟩:=h;exact step _ _ _ _ (ih h) ⟨fun G=>rfl,fun fr v ys e=>by cases e⟩
 |case4 l l' ih=>
  intro h;exact step _ _ _ _ (ih h) ⟨fun G=>rfl,fun fr v ys e=>by cases e⟩
 |case5 fr0 t0 l l' ih=>
  intro h;exact step _ _ _ _ (ih h) ⟨fun G=>⟨none,0,rfl,Wg _,W7 _,fun h=>absurd h (by simp)⟩,fun fr v ys e=>by cases e;exact⟨rfl,rfl⟩⟩
 |case6=>intro h;cases h
theorem q7c{el:TypeId}{u:Ty}{ei:TI}(h:elT tt el=some (u,ei)):tt el=some ei/\u.sz=ei.sz/\0<ei.sz/\ei.zero.length=ei.sz/\zq ei.zero=true/\q6q (u.cells true u.dft) ei.zero=true:=by
 unfold elT at h;split at h
 ·rename_i ei' u' h1 h2;obtain⟨hb,h⟩:=ai h;cases h;simp only[Wc]at hb;obtain⟨⟨⟨⟨a,b⟩,c⟩,d⟩,e⟩:=hb;exact⟨h1,ax a,cm b,ax c,d,e⟩
 ·cases h
theorem jk1(z:Array Value)(n sz i f:Nat)(hz:z.size=sz)(hf:f<sz)(hlt:i*sz+f<n):(madeCells z n)[i*sz+f]? =z[f]? :=by
 subst hz;have:(i*z.size+f) % z.size=f:=by rw[HT,Nat.mul_add_mod,Nat.mod_eq_of_lt hf]
 simp[madeCells,hlt,this,hf]
end
end Go.K
namespace Go.K
open Go.M Go.RowKit
variable {F : Nat -> Prop}
section
variable {U : Nat -> Prop} {w0 : World} {J0 : Pl} {K : Nat -> Bool} {N : Nat} {P : Program} {tt : TT} {R Rf : Type}
theorem jq0{o:Oper}{s:TS}{a:Act}{w w1:World}{J:Pl}(hr:dr U w0 J0 K N s a w J){Hv:List TOb}(hl:HLe F Hv s.H)(hn:K Hv.length=false){k:List St->TV->Option R}{r:R}(hnew:∀δ v,k δ v=some r->∀t o,St.new t o∈δ->F t){u:Ty}{fr:Bool}{xs:List u.den}{its:List TypeId}{cells:Array Value}{ty:TypeId}{c:Nat}
  (hk:k [.new Hv.length (.arr ty (.fz fr) its u xs)] (.own (.o Hv.length))=some r) (hrun:(execOp a.eval o).run P w1= .ok (.value (.slice (some ⟨w.heap.size,0,none⟩) xs.length c)) (w.alloc (.cells cells ty))) (hlc:xs.length<=c) (hcm:c<=maxLen) (hsz:cells.size=c*u.sz) (hp0:0<u.sz)
  (hcell:∀i f,i<xs.length->f<u.sz->∃y,cells[i*u.sz+f]? =some y/\y.oneCell' =true/\u.C w (YY (da J) U fr) (xs.getD i u.dft) f y):qq P U w0 J0 K N o s a w1 k r:=by
 have hat:(fq s.H Hv.length (.arr ty (.fz fr) its u xs))[Hv.length]? =some (.arr ty (.fz fr) its u xs):=by rw[ko _ _ _ hl.len,if_pos rfl]
 refine jd8 hr hl hn hnew hk hrun (fun G' hG m T v hT hv=> ?_) ⟨_,az hat⟩ (fun G' hG=> ?_)
 ·cases T with
  |r t i f=>simp only[TG.ob]at hT;subst hT;rw[l9 hat,if_neg (by simp[Md.isOwn])]at hv;cases hv
  |o t=>
   simp only[TG.ob]at hT;subst hT;rw[az hat]at hv;cases hv;rw[if_pos rfl];refine .inl ⟨.inl hp0,cells,c,by rw[hG];exact KM w _,by rw[hsz];simp,hlc,fun i f hi hf=> ?_⟩;obtain⟨y,hy,h1,hC⟩:=hcell i f hi hf;refine⟨y,by simpa using hy,h1,?_⟩;simp only[ns];have hV:=(Ty.C_iff (gr U (vw s.H) w J) fr u _ f y hf).1 hC;have:=VR.mv m _ y hV;rwa[TV.sb_id]at this
 ·rw[hG];refine⟨xs.length,u.sz,by simp[gr,aj,az hat], .inr ⟨w.heap.size,0,c,cells,ty,by simp[gr],by simp,hlc,hcm,KM w _,by simpa using hsz⟩⟩
theorem j24{o:Oper}{s:TS}{a:Act}{w:World}{J:Pl}(hr:dr U w0 J0 K N s a w J){Hv:List TOb}(hl:HLe F Hv s.H)(hn:K Hv.length=false){k:List St->TV->Option R}{r:R}(hnew:∀δ v,k δ v=some r->∀t o,St.new t o∈δ->F t){u:Ty}{n:Nat}{its:List TypeId}{cells:Array Value}{ty:TypeId}{c:Nat}{z:List Value}(hz:q6q (u.cells true u.dft) z=true)(hz1:zq z=true)
  (hk:k [.new Hv.length (.arr ty .own its u (List.replicate n u.dft))] (.own (.o Hv.length))=some r) (hrun:(execOp a.eval o).run P w= .ok (.value (.slice (some ⟨w.heap.size,0,none⟩) n c)) (w.alloc (.cells cells ty))) (hlc:n<=c) (hcm:c<=maxLen) (hsz:cells.size=c*u.sz) (hp0:0<u.sz)
  (hcell:∀i f,i<n->f<u.sz->cells[i*u.sz+f]? =z[f]?):qq P U w0 J0 K N o s a w k r:=by
 have hat:(fq s.H Hv.length (.arr ty .own its u (List.replicate n u.dft)))[Hv.length]? =some (.arr ty .own its u (List.replicate n u.dft)):=by rw[ko _ _ _ hl.len,if_pos rfl]
 obtain⟨hzl,hzc⟩:=q6r _ _ hz;rw[Ty.cells_len]at hzl;have hget:∀i,(List.replicate n u.dft).getD i u.dft=u.dft:=by
  intro i;rw[Wa,KF];split<;>rfl
 refine jd8 hr hl hn hnew hk hrun (fun G' hG m T v hT hv=> ?_) ⟨_,az hat⟩ (fun G' hG=> ?_)
 ·cases T with
  |r t i f=>
   simp only[TG.ob]at hT;subst hT;rw[l9 hat]at hv;split at hv
   ·rw[hget]at hv;cases hq:ek u u.dft f with
    |none=>rw[hq]at hv;cases hv
    |some y=>
     obtain⟨v0,ys⟩:=y;rw[hq]at hv;cases hv;rw[if_neg (by simp)];have hf:=qo1 hq;obtain⟨zu,hzu⟩:∃zu,z[f]? =some zu:=⟨_,Wi (by omega)⟩;obtain⟨fr0,hc⟩:=jdn hq;rw[((hzc f zu hzu).2 _ _ _ hc).1];rfl
   ·cases hv
  |o t=>
   simp only[TG.ob]at hT;subst hT;rw[az hat]at hv;cases hv;rw[if_pos rfl];refine .inl ⟨.inl hp0,cells,c,by rw[hG];exact KM w _,by rw[hsz];simp,by simpa using hlc,fun i f hi hf=> ?_⟩;simp only[WT]at hi;obtain⟨zu,hzu⟩:∃zu,z[f]? =some zu:=⟨_,Wi (by simp only[]at hf;omega)⟩;refine⟨zu,by rw[WR];exact(hcell i f hi hf).trans hzu,?_,?_⟩
   ·simp only[zq,Kt]at hz1;exact hz1 _ (WV hzu)
   ·simp only[];unfold b7;rw[hget];simp only[Md.fr];split
    ·rename_i fr0 v0 ys0 e;obtain⟨rfl,rfl⟩:=(hzc f zu hzu).2 _ _ _ e;have hin:=qq1 e;refine⟨0,v0.sz,?_, .inl ⟨none,rfl,rfl⟩⟩;rw[hG];simp only[gr,aj];rw[qih hat rfl (by simpa using hi) (by rw[hget];exact hin)];rfl
    ·exact(hzc f zu hzu).1 G'
 ·rw[hG];refine⟨n,u.sz,by simp[gr,aj,az hat], .inr ⟨w.heap.size,0,c,cells,ty,by simp[gr],by simp,hlc,hcm,KM w _,by simpa using hsz⟩⟩
theorem jw8(hF:dq P tt){o:Oper}{s:TS}{a:Act}{w:World}{J:Pl}(hr:dr U w0 J0 K N s a w J){Hv:List TOb}(hl:HLe F Hv s.H)(hn:K Hv.length=false){k:List St->TV->Option R}{r:R}(hnew:∀δ v,k δ v=some r->∀t o,St.new t o∈δ->F t){t:TypeId}{x:TI}(ho:o.op= .alloc t)(ht:tt t=some x)(hz:x.zero.length=x.sz)(hz1:zq x.zero=true)
  (hk:k [.new Hv.length (.cs t x.sz 1 (x.zero.map ofV))] (.ptr (.o Hv.length) (.ofNat 0) 0)=some r):qq P U w0 J0 K N o s a w k r:=by
 obtain⟨i,d,z,h1,h2,h3,h4,h5,h6,h7⟩:=(hF t x ht).1;have hrun:(execOp a.eval o).run P w= .ok (.value (.pointer (some ⟨w.heap.size,0,none⟩))) (w.alloc (.cells z.cells t)):=by
  unfold execOp;simp[ho,Instr.alloc,zeroValue,typeInfo,h1,h6,newVar,newRow]
 exact jqz hr hl hn hnew hk hrun (by rw[h7];exact q2z hz1) (by simp[hz]) (.inr Nat.one_pos) fun G' e1 e2 _=>⟨w.heap.size,0,1,x.sz,e1,e2,by simp⟩
theorem j7a{o:Oper}{s:TS}{a:Act}{w:World}{J:Pl}(hr:dr U w0 J0 K N s a w J){Hv:List TOb}(hl:HLe F Hv s.H)(hn:K Hv.length=false){k:List St->TV->Option R}{r:R}(hnew:∀δ v,k δ v=some r->∀t o,St.new t o∈δ->F t){t:TypeId}{x:Operand}{sz:Nat}{A:TV}{cs:List TV}(ho:o.op= .box t x)(hA:VR (gr U (vw s.H) w J) A (a.eval x))(hc:qnh sz A=some cs)
  (hk:k [.new Hv.length (.cs t sz 1 cs)] (.ptr (.o Hv.length) (.ofNat 0) 0)=some r):qq P U w0 J0 K N o s a w k r:=by
 obtain⟨hlen,hcs⟩:=yc hc hA;have hrun:(execOp a.eval o).run P w= .ok (.value (.pointer (some ⟨w.heap.size,0,none⟩))) (w.alloc (.cells (a.eval x).cells t)):=by
  unfold execOp;simp[ho,Instr.box,newVar,newRow]
 exact jqz hr hl hn hnew hk hrun hcs (by simp[hlen]) (.inr Nat.one_pos) fun G' e1 e2 _=>⟨w.heap.size,0,1,sz,e1,e2,by simp⟩
theorem j2y(hF:dq P tt){o:Oper}{s:TS}{a:Act}{w:World}{J:Pl}(hr:dr U w0 J0 K N s a w J){Hv:List TOb}(hl:HLe F Hv s.H)(hn:K Hv.length=false){k:List St->TV->Option R}{r:R}(hnew:∀δ v,k δ v=some r->∀t o,St.new t o∈δ->F t){t el:TypeId}{b1 b2:Nat}{z1:List Value}{l c:Operand}{u:Ty}{ei:TI}{k1 k2:IntKind}{lv cv:Int}{its:List TypeId}(ho:o.op= .makeSlice t l c)
  (ht:tt t=some ⟨.slice el,b1,b2,z1⟩) (hel:elT tt el=some (u,ei)) (hlv:a.eval l= .int k1 lv) (hcv:a.eval c= .int k2 cv) (hm:qub lv cv ei.bytes=true)
  (hk:k [.new Hv.length (.arr el (bif u.flat then .fz true else .own) its u (List.replicate lv.toNat u.dft))] (.own (.o Hv.length))=some r):qq P U w0 J0 K N o s a w k r:=by
 obtain⟨hti,husz,hpos,hz,hz1,hzB⟩:=q7c hel;obtain⟨i,d,z,h1,h2,h3,h4,h5,h6,h7⟩:=(hF el ei hti).1;simp only[qub,Wc,WH]at hm;obtain⟨⟨⟨h0,hlc⟩,hby⟩,h63⟩:=hm;have hr' :=run_make (P:=P) w t el i z (jh hF ht) h1 h6 k1 k2 lv cv h0 hlc (by rw[h5];exact hby) h63;have hrun:(execOp a.eval o).run P w= .ok (.value (.slice (some ⟨w.heap.size,0,none⟩) lv.toNat cv.toNat)) (w.alloc (.cells (madeCells z.cells (cv.toNat*i.size)) el)):=by
  unfold execOp;simp only[ho,hlv,hcv];simp[hr']
 have hzs:z.cells.size=ei.sz:=by rw[<-WO,h7,hz]
 have hms:(madeCells z.cells (cv.toNat*i.size)).size=cv.toNat*u.sz:=by rw[size_madeCells,h4,husz]
 have hat:∀j f,j<lv.toNat->f<u.sz->(madeCells z.cells (cv.toNat*i.size))[j*u.sz+f]? =ei.zero[f]? :=by
  intro j f hj hf;have:(j+1)*ei.sz<=cv.toNat*ei.sz:=WC _ (by omega);rw[WM]at this;rw[husz]at hf⊢;rw[jk1 z.cells _ ei.sz j f hzs hf (by rw[h4];omega),<-WY,h7]
 have hcm:cv.toNat<=maxLen:=by unfold maxLen;omega
 cases hfl:u.flat with
 |false=>
  rw[hfl]at hk;exact j24 hr hl hn hnew hzB hz1 hk hrun (by omega) hcm hms (by omega) hat
 |true=>
  rw[hfl]at hk;refine jq0 hr hl hn hnew hk (by rw[WT];exact hrun) (by rw[WT];omega) hcm hms (by omega) (fun j f hj hf=> ?_);rw[WT]at hj;obtain⟨hzl,hzc⟩:=q6r _ _ hzB;rw[Ty.cells_len]at hzl;obtain⟨zu,hzu⟩:∃zu,ei.zero[f]? =some zu:=⟨_,Wi (by omega)⟩;refine⟨zu,(hat j f hj hf).trans hzu,?_,?_⟩
  ·simp only[zq,Kt]at hz1;exact hz1 _ (WV hzu)
  ·have:(List.replicate lv.toNat u.dft).getD j u.dft=u.dft:=by
    rw[Wa,KF];split<;>rfl
   rw[this];exact(Ty.C_iff (gr U (vw s.H) w J) true u u.dft f zu hf).2 ((hzc f zu hzu).1 _)
theorem qq9{kp:List Bool}:∀(l:List TG) (H:List TOb) (δ:List St),ov kp l H=some δ->(jt H δ).length=H.length
 |[],H,δ,h=>by simp only[ov,Wb]at h;subst h;rfl
 | .o t::l,H,δ,h=>by
  simp only[ov]at h;obtain⟨_,h⟩:=ai h;split at h
  ·rename_i δ1 h1;cases h;rw[ut,qq9 l _ δ1 h1];simp only[jau,jt,hAp,WB,c7]
  ·cases h
 | .r t i f::l,H,δ,h=>by
  simp only[ov]at h;obtain⟨_,h⟩:=ai h;split at h
  ·rename_i δ1 h1;cases h;rw[ut,qq9 l _ δ1 h1];unfold qeg;split
   ·simp only[jt,hAp,WB,c7]
   ·rfl
  ·cases h
theorem jxg(hF:dq P tt){o:Oper}{s:TS}{a:Act}{w:World}{J:Pl}(hr:dr U w0 J0 K N s a w J){Hv:List TOb}(hl:HLe F Hv s.H)(hn:K Hv.length=false){k:List St->TV->Option R}{r:R}(hnew:∀δ v,k δ v=some r->∀t o,St.new t o∈δ->F t){t el:TypeId}{b1 b2:Nat}{z1:List Value}{len:Nat}{ps:Array (Nat×Operand)}{ei:TI}{L:List TV}{X:Ctx Rf}{e:Operand->TV}(hX:X.tt=tt)(ho:o.op= .buildSlice t len ps)
  (ht:tt t=some ⟨.slice el,b1,b2,z1⟩) (hel:tt el=some ei) (hL:qvo (fun i=>some (i*ei.sz,ei.sz)) ((List.range (len*ei.sz)).map fun j=>ofV (ei.zero.getD (j % ei.sz) undef)) (ps.toList.map fun p=>(p.1,e p.2))=some L)
  (hps:∀p∈ps.toList,VR (gr U (vw s.H) w J) (e p.2) (a.eval p.2)) (hz:ei.zero.length=ei.sz) (hz1:zq ei.zero=true) (hpos:0<ei.sz) (hcap:len*ei.sz<=16777216)
  (hk:k [.new Hv.length (jlv X el ei len L)] (.own (.o Hv.length))=some r):qq P U w0 J0 K N o s a w k r:=by
 obtain⟨i,d,z,h1,h2,h3,h4,h5,h6,h7⟩:=(hF el ei hel).1;have hzs:z.cells.size=ei.sz:=by rw[<-WO,h7,hz]
 have hzero:∀j,j<ei.sz->z.cells[j]! =ei.zero.getD j undef:=by
  intro j hj;have hj' :j<z.cells.size:=by omega
  have e1:z.cells[j]? =ei.zero[j]? :=by rw[<-WY,h7]
  rw[Wa,<-e1];simp[hj']
 have hcr:mm (gr U (vw s.H) w J) (if len*ei.sz=0 then #[]else(Array.range (len*ei.sz)).map (z.cells[· % z.cells.size]!)).toList ((List.range (len*ei.sz)).map fun j=>ofV (ei.zero.getD (j % ei.sz) undef)):=by
  have hone:∀j,j<ei.sz->(ei.zero.getD j undef).oneCell' =true:=by
   intro j hj;simp only[zq,Kt]at hz1;rw[Wa,Wi (by omega)];exact hz1 _ (Hb (by omega))
  have hget:∀(j:Nat) y,(if len*ei.sz=0 then #[]else(Array.range (len*ei.sz)).map (z.cells[· % z.cells.size]!))[j]? =some y->y=ei.zero.getD (j % ei.sz) undef:=by
   intro j y hy;split at hy
   ·simp at hy
   ·rename_i hne;have hj:j<len*ei.sz:=by
     rcases Wz j (len*ei.sz)with h' |h'
     ·exact h'
     ·rw[KV (by simpa using h')]at hy;cases hy
    have hm:j % ei.sz<ei.sz:=Nat.mod_lt _ hpos;simp[hj,hzs,hzero _ hm]at hy;rw[<-hy];simp[Wa]
  refine⟨gf.of (by rw[WO];split<;>simp_all) fun j A y hA hy=> ?_,fun y hy=> ?_⟩
  ·have hj:j<len*ei.sz:=by
    rcases Wz j (len*ei.sz)with h' |h'
    ·exact h'
    ·rw[Wp (by simpa using h')]at hA;cases hA
   rw[W6,HJ hj]at hA;simp only[Wd,Wb]at hA;subst hA;rw[WY]at hy;rw[hget j y hy];exact jpx _ _
  ·obtain⟨j,hj⟩:=List.getElem?_of_mem hy;rw[WY]at hj;rw[hget j y hj];exact hone _ (Nat.mod_lt _ hpos)
 obtain⟨cells',hfill,hrel⟩:=qvp (ps.toList.map fun p=>(p.1,e p.2)) (ps.toList.map fun p=>(p.1,a.eval p.2)) _ _ L hcr (by simp) (by
  intro j p v hp hv;rw[W6]at hp hv;cases hq:ps.toList[j]? with
  |none=>simp[hq]at hp
  |some q=>
   simp only[hq,Wd,Wb]at hp hv;subst hp;subst hv;exact⟨rfl,hps q (WV hq)⟩) hL
 have hLl:L.length=len*ei.sz:=by rw[jkl _ _ _ hL];simp
 have hrun:(execOp a.eval o).run P w= .ok (.value (.slice (some ⟨w.heap.size,0,none⟩) len len)) (w.alloc (.cells cells' el)):=by
  unfold execOp;simp only[ho,Instr.buildSlice,WJ,Wq (jh hF ht),Wy,ck hF hel];rw[if_neg (by omega)];have hps:(ps.map fun x=>(x.1,a.eval x.2)).toList=ps.toList.map fun p=>(p.1,a.eval p.2):=by simp
  by_cases h0:len*ei.sz=0
  ·simp only[h0,Kw]at hfill;simp only[WU,Wy,K7,WJ,h0,Kw,hps];have:((Array.range 0).map fun x=>(#[]:Array Value)[x % (#[]:Array Value).size]!)= #[]:=by simp[Array.range_zero']
   rw[this,hfill];simp[newRow]
  ·simp only[h0,KI]at hfill;simp only[WU,Wy,K7,WJ,h0,KI,hps,zeroValue,typeInfo,run_program,h1,h6,hfill];simp[newRow]
 have hlm:len<=maxLen:=by
  unfold maxLen;have:len*1<=len*ei.sz:=HI _ hpos;omega
 have hcl:cells'.size=len*ei.sz:=by rw[<-WO,hrel.1.len,hLl]
 have hcs:k [.new Hv.length (.cs el ei.sz len L)] (.own (.o Hv.length))=some r->qq P U w0 J0 K N o s a w k r:=by
  intro hk;exact jqz hr hl hn hnew hk hrun hrel hLl (.inl hpos) fun G' e1 e2 e3=>⟨len,ei.sz,e2, .inr ⟨w.heap.size,0,len,cells',el,e1,by simp,Wg _,hlm,by rw[e3];exact KM w _,by simpa using hcl⟩⟩
 unfold jlv at hk;split at hk
 ·rename_i u ei2 hel2;rw[hX]at hel2;obtain⟨hti,husz,_⟩:=q7c hel2;rw[hel]at hti;cases hti;split at hk
  ·rename_i xs fr hpk;obtain⟨hxl,_,hC⟩:=Ty.packN_ok (G:=gr U (vw s.H) w J) hpk;cases hb:(X.dt||(u.flat||jyj L||Nat.beq len 0))with
   |false=>rw[hb]at hk;exact hcs hk
   |true=>
    rw[hb]at hk;refine jq0 hr hl hn hnew hk (by rw[hxl];exact hrun) (Nat.le_of_eq hxl) hlm (by rw[hcl,husz]) (by omega) (fun j f hj hf=> ?_);rw[hxl]at hj;have hjl:j*u.sz+f<L.length:=by
     have:(j+1)*u.sz<=len*u.sz:=WC _ hj;rw[WM]at this;rw[hLl,<-husz];omega
    obtain⟨y,hy,hV⟩:=hrel.1.getD (j*u.sz+f) hjl;exact⟨y,by simpa using hy,hrel.2 y (WV hy),Ty.C_fl (G:=gr U (vw s.H) w J) (fun e=>by simpa using e) (hC j f hj hf y hV)⟩
  ·exact hcs hk
 ·exact hcs hk
theorem j0l(hF:dq P tt){o:Oper}{s:TS}{a:Act}{w:World}{J:Pl}(hr:dr U w0 J0 K N s a w J){Hv:List TOb}(hl:HLe F Hv s.H){X:Ctx Rf}(hK:∀t,bt X.kp t=false->K t=false){k:List St->TV->Option R}{r:R}{t:TypeId}{p x:Operand}{ti:TI}{A B:TV}(ho:o.op= .store t p x)(ht:tt t=some ti)
  (hp:VR (gr U (vw s.H) w J) A (a.eval p)) (hx:VR (gr U (vw s.H) w J) B (a.eval x)) (hk:q2m X ti A B Hv (fun δ=>k δ .any)=some r):qq P U w0 J0 K N o s a w k r:=by
 obtain⟨δ,hk,hsz,ad,w',J',hpv,hrun,hr'⟩:=jwd (P:=P) hK hr hl hk hp hx;have hrun:(execOp a.eval o).run P w= .ok .skip w' :=by
  unfold execOp;simp only[ho,Instr.storeAt,hpv,Instr.sureAddr,storeVar,WJ,WU,Wy,ck hF ht,hsz,ne_eq,not_true,KI,hrun]
 refine⟨δ, .any,hk,fun Q KK h=> ?_⟩;unfold Oper.wp;rw[hrun];exact h _ _ _ (hr'.put o.dst trivial)
theorem k9{α β:Type}{m:Sem α}{f:α->Sem β}{w w' :World}{b:β}(h:(m>>=f).run P w= .ok b w'):∃a w1,m.run P w= .ok a w1/\(f a).run P w1= .ok b w' :=by
 rw[WJ]at h;cases hm:m.run P w with
 |ok a w1=>rw[hm]at h;exact⟨a,w1,rfl,h⟩
 |halt x y=>rw[hm]at h;cases h
theorem jap.room{base:Option Addr}{n m c:Nat}(hn:jap (.slice base n c))(h:n+m<=c):jap (.slice base (n+m) c):=by
 intro a c' e;simp only[Value.slice.injEq]at e;obtain⟨rfl,e2,rfl⟩:=e;have h0:n=0:=by omega
 subst h0;exact hn _ _ rfl
theorem jap.big{a:Option Addr}{n c d:Nat}(h:¬n<=c):jap (.slice a n d):=by
 intro a' c' e;simp only[Value.slice.injEq]at e;omega
theorem append_nil{st el ty:TypeId}(hst:P.underlying st=some (.slice el)){vd sv v:Value}{w w' :World}(h:(Builtin.append_ #[st,st] ty #[vd,sv]).run P w= .ok v w')(hn:jap vd):jap v:=by
 unfold Builtin.append_ at h;split at h
 ·rename_i sT s x e3;have e1:st=sT:=by simpa using W0 Prod.fst e3
  have e2:vd=s:=by simpa using W0 (fun p=>p.2.1) e3
  subst e1;subst e2;clear e3;obtain⟨t1,w1,h1,h⟩:=k9 h;rw[Wq hst]at h1;cases h1;dsimp only at h;cases vd with
  |slice base sLen sCap=>
   dsimp only at h;obtain⟨size,w2,h2,h⟩:=k9 h;have e0:(#[st,st]:Array TypeId)[1]? =some st:=rfl;rw[e0]at h;dsimp only at h;obtain⟨t1,w3,h1,h⟩:=k9 h;rw[Wq hst]at h1;cases h1;dsimp only at h;obtain⟨z,w4,h4,h⟩:=k9 h;cases h4;rw[if_neg (by decide)]at h;obtain⟨n,w5,h5,h⟩:=k9 h;by_cases hle:sLen+n<=sCap
   ·rw[if_pos hle]at h;obtain⟨new,w6,h6,h⟩:=k9 h;have hr:v= .slice base (sLen+n) sCap:=by
     cases base with
     |none=>cases h;rfl
     |some ad=>
      obtain⟨_,_,_,h⟩:=k9 h;cases h;rfl
    rw[hr];exact hn.room hle
   ·rw[if_neg hle]at h;have hr:∃ad c,v= .slice ad (sLen+n) c:=by
     obtain⟨i1,w6,h6,h⟩:=k9 h;split at h
     ·obtain⟨_,_,hb,_⟩:=k9 h;cases hb
     ·obtain⟨i2,w7,h7,h⟩:=k9 h;split at h
      ·obtain⟨_,_,hb,_⟩:=k9 h;rw[if_neg (by decide)]at hb;obtain⟨ms,w8,_,hb⟩:=k9 hb;split at hb
       ·obtain⟨_,_,_,hb⟩:=k9 hb;cases hb
       ·cases hb
      ·obtain⟨_,_,_,h⟩:=k9 h;obtain⟨_,_,_,h⟩:=k9 h;obtain⟨_,_,_,h⟩:=k9 h;obtain⟨_,_,_,h⟩:=k9 h;obtain⟨_,_,_,h⟩:=k9 h;obtain⟨_,_,_,h⟩:=k9 h;obtain⟨_,_,_,h⟩:=k9 h;cases h;exact⟨_,_,rfl⟩
    obtain⟨ad,c,hr⟩:=hr;rw[hr];exact jap.big hle
  |_=>cases h
 ·cases h
theorem jul(hF:dq P tt){o:Oper}{s:TS}{a:Act}{w:World}{J:Pl}(hr:dr U w0 J0 K N s a w J){Hv:List TOb}(hl:HLe F Hv s.H){X:Ctx Rf}(hK:∀t,bt X.kp t=false->K t=false)(hn:∀t,Hv.length<=t->K t=false){k:List St->TV->Option R}{r:R}(hnew:∀δ v,k δ v=some r->∀t o,St.new t o∈δ->F t){t el:TypeId}{b1 b2:Nat}{z1:List Value}{d x:Operand}{u:Ty}{ei:TI}{A B:TV}(ho:o.op= .call ⟨.builtin .append,⟨[d,x]⟩,⟨[t,t]⟩⟩)(ht:tt t=some ⟨.slice el,b1,b2,z1⟩)(hel:elT tt el=some (u,ei))
  (hd:VR (gr U (vw s.H) w J) A (a.eval d)) (hx:VR (gr U (vw s.H) w J) B (a.eval x)) {nf:Bool} (hnf:nf=true->jap (a.eval d)) (hk:jjw X el u ei A B Hv (fun δ v=>k δ (bif nf then .nl (some false) v else v))=some r):qq P U w0 J0 K N o s a w k r:=by
 obtain⟨hti,husz,hpos,hz,_,_⟩:=q7c hel;obtain⟨δ,T,hk,v',w',J',hrun,hr',hV⟩:=j1c (st:=t) (ty:=o.type) hF hK ⟨⟨b1,b2,z1,ht⟩,hti,husz.symm,by omega,hz⟩ hr hl hk hd hx hn (fun δ v hk t o hm=>hnew δ _ hk t o hm);have hnil:=fun hn0:jap (a.eval d)=>append_nil (jh hF ht) hrun hn0
 have hrun:(execOp a.eval o).run P w= .ok (.value v') w' :=by
  unfold execOp;simp only[ho,resolve,invoke,builtin,WJ,WU,Wy,Hm,Kd,KH,hrun]
 refine qq.val hk hrun hr' ?_;cases nf with
 |false=>exact hV
 |true=>exact⟨hV,hnil (hnf rfl)⟩
theorem jhw(z:Array Value)(n sz i f:Nat)(hz:z.size=sz)(hf:f<sz)(hi:i<n):(Builtin.zeroCells z n)[i*sz+f]? =z[f]? :=by
 subst hz;have:(i*z.size+f) % z.size=f:=by rw[HT,Nat.mul_add_mod,Nat.mod_eq_of_lt hf]
 have hlt:i*z.size+f<n*z.size:=by
  have:(i+1)*z.size<=n*z.size:=WC _ hi;rw[WM]at this;omega
 simp[Builtin.zeroCells,hlt,this,hf]
theorem dr.drew{s:TS}{a:Act}{w:World}{J:Pl}(h:dr U w0 J0 K N s a w J):dr U w0 J0 K N s a w.drew J:=by
 have hV:∀T:TG,¬False->vw s.H T=(vw s.H T).map (Vw.sb fun _=> .id):=fun T _=>(qo7 _).symm
 have hm:Mv (fun _=> .id) (gr U (vw s.H) w J) (gr U (vw s.H) w.drew J):=
  Mv.upd h.hr (fun _=>False) (Wg _) hV (fun T _=>rfl) (fun T g o _ _=>rfl) (fun b _ _=>rfl) (fun T g o hT=>hT.elim) (fun T q _ T' e=>by cases e) (fun T T' q hT=>hT.elim) (fun T fr u xs q e=>by cases e)
 refine ARel.go h hm (fun t=>(TV.sb_id _).symm) ?_;exact h.hr.upd (fun _=>False) hm hV (fun T _=>rfl) (fun T g o _ _=>rfl) (fun T v hT=>hT.elim) (fun T p hT=>hT.elim) (fun T g o hT=>hT.elim) h.hr.inj rfl rfl rfl (fun t _ hT=>hT.elim) (fun t g o _ hT=>hT.elim)
theorem j1d(hF:dq P tt){o:Oper}{s:TS}{a:Act}{w:World}{J:Pl}(hr:dr U w0 J0 K N s a w J){Hv:List TOb}(hl:HLe F Hv s.H){X:Ctx Rf}(hX:X.tt=tt)(hn:K Hv.length=false){k:List St->TV->Option R}{r:R}(hnew:∀δ v,k δ v=some r->∀t o,St.new t o∈δ->F t){t t' :TypeId}{d x:Operand}{A B:TV}
  (ho:o.op= .call ⟨.builtin .append,⟨[d,x]⟩,⟨[t,t']⟩⟩) (hd:VR (gr U (vw s.H) w J) A (a.eval d)) (hx:VR (gr U (vw s.H) w J) B (a.eval x)) (hk:juk X t t' A B Hv k=some r):qq P U w0 J0 K N o s a w k r:=by
 unfold juk at hk;rw[hX]at hk;split at hk
 ·rename_i el b1 b2 z1 kn c1 c2 z2 ht ht';split at hk
  ·rename_i u ei hel;split at hk
   ·rename_i kx n hgd hgx;have hfl:=(ai hk).1
    replace hk:=(ai hk).2
    have hC:=(bn hk).1
    replace hk:=(bn hk).2
    obtain⟨h1,h2⟩:=gb.app hC;obtain⟨h2,h3⟩:=gb.app h2;have v1:=hd.gt h1;have v2:=hx.gt h2;rw[hgd]at v1;rw[hgx]at v2;simp only[VR]at v1 v2;have hn0:=h3 _ Wf;have hrm:=h3 _ (We _ Wf);simp only[room,Wc,WH]at hn0 hrm;obtain⟨hti,husz,hpos,hz,hz1,hzB⟩:=q7c hel;obtain⟨i,dd,z,g1,g2,g3,g4,g5,g6,g7⟩:=(hF el ei hti).1;have hnn:((n.toNat:Nat):Int)=n:=Int.toNat_of_nonneg (by omega);have hzs:z.cells.size=ei.sz:=by rw[<-WO,g7,hz]
    have hge:=grownCap_ge w n.toNat 0 el;have hcm:grownCap w n.toNat 0 el<=maxLen:=grownCap_le_maxLen w n.toNat 0 el (by unfold maxLen;omega);have hrun0:=Lib.run_append_nil_zeros (P:=P) w t t' o.type el i z kx kn (jh hF ht) (q6k hF ht') g1 g6 n.toNat (by omega) (by omega) (by omega) (by rw[g5];omega);rw[hnn]at hrun0;have hrun:(execOp a.eval o).run P w= .ok (.value (.slice (some ⟨w.drew.heap.size,0,none⟩) (List.replicate n.toNat u.dft).length (grownCap w n.toNat 0 el))) (w.drew.alloc (.cells (Builtin.zeroCells z.cells n.toNat++Builtin.zeroCells z.cells (grownCap w n.toNat 0 el-n.toNat)) el)):=by
     rw[WT];unfold execOp;simp only[ho,resolve,invoke,builtin,WJ,WU,Wy,Hm,Kd,KH,v1,v2,hrun0];rfl
    refine jq0 hr.drew hl hn hnew hk hrun (by rw[WT];exact hge) hcm (by rw[HF,size_zeroCells,size_zeroCells,hzs,husz,<-WM];congr 1;omega) (by omega) (fun j f hj hf=> ?_);rw[WT]at hj;obtain⟨hzl,hzc⟩:=q6r _ _ hzB;rw[Ty.cells_len]at hzl;obtain⟨zu,hzu⟩:∃zu,ei.zero[f]? =some zu:=⟨_,Wi (by omega)⟩;have hlt:j*u.sz+f<(Builtin.zeroCells z.cells n.toNat).size:=by
     rw[size_zeroCells,hzs,<-husz];have:(j+1)*u.sz<=n.toNat*u.sz:=WC _ hj;rw[WM]at this;omega
    refine⟨zu,?_,?_,?_⟩
    ·rw[Ku hlt,husz,jhw z.cells n.toNat ei.sz j f hzs (by omega) hj,<-WY,g7];exact hzu
    ·simp only[zq,Kt]at hz1;exact hz1 _ (WV hzu)
    ·have:(List.replicate n.toNat u.dft).getD j u.dft=u.dft:=by
      rw[Wa,KF];split<;>rfl
     rw[this];exact(Ty.C_iff (gr U (vw s.H) w.drew J) true u u.dft f zu hf).2 ((hzc f zu hzu).1 _)
   ·cases hk
  ·cases hk
 ·cases hk
theorem ARel.setMap{S:Nat->TV}{V:TG->Option Vw}{a:Act}{w:World}{J:Pl}(h:ARel U w0 J0 K N S V a w J){T:TG}{v:Vw}(hT:V T=some v){g o:Nat}(hJ:J T=some (g,o)){es:Array MapEntry}{c:Nat}(hh:w.heap[g]? =some (.map es c)){es' :Array MapEntry}{c' :Nat}{v' :Vw}
  (hvs:v.sz=0) (hvn:v.n=0) (hs:v'.sz=0) (hn:v'.n=0) (hmo:∀G',Mv (fun _=> .id) (gr U V w J) G' ->wz G' v' es' c') {w' :World} (hw:w' ={w with heap:=w.heap.setIfInBounds g (.map es' c')}):
  ARel U w0 J0 K N S (upd V T v') a w' J:=by
 have hlt:g<w.heap.size:=(W4.1 hh).1;have hrow:w'.heap[g]? =some (.map es' c'):=by rw[hw];simp[hlt]
 have hother:∀k,k≠g->w'.heap[k]? =w.heap[k]? :=fun k hk=>by rw[hw];simp[Ko hk]
 have hsize:w'.heap.size=w.heap.size:=by rw[hw];simp
 have hI:aj (upd V T v')=aj V:=jdm hT (hn.trans hvn.symm) (hs.trans hvs.symm);have hown:da J g:=⟨T,o,hJ⟩;have hm:Mv (fun _=> .id) (gr U V w J) (gr U (upd V T v') w' J):=by
  refine⟨Nat.le_of_eq hsize.symm,fun _ _ hx=>hx,fun _ _ _ hu=>hu,fun b _ hx=>hother b (fun e=>hx (e▸hown)),fun T1 T2 q ht hq=> ?_,fun T1 fr u xs q e=>by cases e⟩;rcases ht with⟨_,rfl⟩|ht
  ·refine⟨by show aj _ T2=_;rw[hI];exact hq,fun g1 o1 hg1=>⟨hg1,fun cur1 e1 hc1=> ?_⟩⟩;by_cases e:g1=g
   ·subst e;have hc1' :w.heap[g1]? =some (.cells cur1 e1 (0,0)):=hc1;rw[hh]at hc1';cases hc1'
   ·exact⟨cur1,(hother g1 e).trans hc1,rfl⟩
  ·cases ht
 refine h.go hm (fun t=>(TV.sb_id _).symm) ⟨h.hr.inj,fun T1 p hp=> ?_,fun T1 v1 hv1=> ?_,h.hr.own,?_,?_,?_,by rw[hsize];exact h.hr.size,fun b hb hnb=> ?_,h.hr.keep,fun t g1 o1 ht hg1 cur1 e1 hc1=> ?_,h.hr.ulow,h.hr.tb0⟩
 ·by_cases e:T1=T
  ·exact⟨v',by simp[upd,e]⟩
  ·obtain⟨v1,hv1⟩:=h.hr.dom T1 p hp;exact⟨v1,by simp[upd,e,hv1]⟩
 ·by_cases e:T1=T
  ·subst e;simp only[upd,Kw,Wb]at hv1;subst hv1;rw[hJ];exact .inr ⟨hs,hn,es',c',hrow,hmo _ hm⟩
  ·have hv1' :V T1=some v1:=by simpa[upd,e]using hv1
   refine(h.hr.obj T1 v1 hv1').mv hm (fun g1 o1 hp=>hother g1 (fun eg=> ?_)) rfl rfl rfl (fun i' f' _ _ u hu=>by have:=VR.mv hm _ u hu;rwa[TV.sb_id]at this) (fun _ _=>HZ.of hm fun _ _=>(TV.sb_id _).symm);subst eg;exact e (h.hr.inj T1 T g1 o1 o hp hJ)
 ·rw[hw];exact h.hr.os
 ·rw[hw];exact h.hr.tape
 ·rw[hw];exact h.hr.output
 ·refine(hother b (fun e=> ?_)).trans (h.hr.blk b hb hnb);subst e;rcases(h.hr.own T b o hJ).2 with hge|⟨T',o',h'⟩
  ·omega
  ·exact hnb T' o' h'
 ·obtain⟨cur2,h1,h2⟩:=h.hr.ksz t g1 o1 ht hg1 cur1 e1 hc1;by_cases e:g1=g
  ·subst e;rw[hh]at h1;cases h1
  ·exact⟨cur2,(hother g1 e).trans h1,h2⟩
theorem jn5{o:Oper}{s:TS}{a:Act}{w:World}{J:Pl}(hr:dr U w0 J0 K N s a w J){Hv:List TOb}(hl:HLe F Hv s.H){X:Ctx Rf}(hn:K Hv.length=false){k:List St->TV->Option R}{r:R}(hnew:∀δ v,k δ v=some r->∀t o,St.new t o∈δ->F t){t:TypeId}
  (hrun:∀kt et,(∃a b z,X.tt t=some ⟨.map kt et,a,b,z⟩)->(execOp a.eval o).run P w= .ok (.value (.map (some w.heap.size))) (w.alloc (.map #[] 0))) (hk:q1q X t Hv k=some r):qq P U w0 J0 K N o s a w k r:=by
 unfold q1q at hk;split at hk
 ·rename_i kt et a1 b1 z1 ht;split at hk
  ·rename_i ku u _ _;split at hk
   ·rename_i ety _ _ _ _;have hat:(fq s.H Hv.length (.mo ku u ety [] none))[Hv.length]? =some (.mo ku u ety [] none):=by rw[ko _ _ _ hl.len,if_pos rfl]
    refine jd8 hr hl hn hnew hk (hrun kt et ⟨_,_,_,ht⟩) (fun G' hG m T v hT hv=> ?_) ⟨_,qa0 hat⟩ (fun G' hG=> ?_)
    ·cases T with
     |r t i f=>simp only[TG.ob]at hT;subst hT;rw[qm hat]at hv;simp at hv
     |o t=>
      simp only[TG.ob]at hT;subst hT;rw[qa0 hat]at hv;cases hv;rw[if_pos rfl];exact .inr ⟨rfl,rfl,#[],0,by rw[hG];exact KM w _,wz.mk' Stp.nil (fun i e he=>by simp at he) fun i _=>⟨rfl,rfl⟩⟩
    ·rw[hG];exact⟨w.heap.size,0,(0,0),by simp[gr],by simp[gr,aj,qa0 hat],rfl⟩
   ·cases hk
  ·rename_i ku vu _ _ _;have hat:(fq s.H Hv.length (.mp ku vu []))[Hv.length]? =some (.mp ku vu []):=by rw[ko _ _ _ hl.len,if_pos rfl]
   refine jd8 hr hl hn hnew hk (hrun kt et ⟨_,_,_,ht⟩) (fun G' hG m T v hT hv=> ?_) ⟨_,qqv hat⟩ (fun G' hG=> ?_)
   ·cases T with
    |r t i f=>simp only[TG.ob]at hT;subst hT;simp[vw,hat,vwR]at hv
    |o t=>
     simp only[TG.ob]at hT;subst hT;rw[qqv hat]at hv;cases hv;rw[if_pos rfl];refine .inr ⟨rfl,rfl,#[],0,by rw[hG];exact KM w _,wz.mk' Stp.nil (fun i e he=>by simp at he) fun i _=>by simp[qzc]⟩
   ·rw[hG];exact⟨w.heap.size,0,(0,0),by simp[gr],by simp[gr,aj,qqv hat],rfl⟩
  ·cases hk
 ·cases hk
theorem ji0{s:TS}{a:Act}{w:World}{J:Pl}(hr:dr U w0 J0 K N s a w J){tg:Nat}{ku vu:Ty}{es es2:List (ku.den×vu.den)}(ho:s.H[tg]? =some (.mp ku vu es)){g oo:Nat}(hJ' :J (.o tg)=some (g,oo)){hs:Array MapEntry}{c:Nat}(hh' :w.heap[g]? =some (.map hs c)){es' :Array MapEntry}{c' :Nat}
  (hent' :qt6 ku vu es'.toList es2) (hst' :Stp es' c'):dr U w0 J0 K N ⟨s.S,s.H.set tg (.mp ku vu es2)⟩ a {w with heap:=w.heap.setIfInBounds g (.map es' c')} J:=by
 have hlt:tg<s.H.length:=(Wh.1 ho).1;have hat:(s.H.set tg (.mp ku vu es2))[tg]? =some (.mp ku vu es2):=Wl hlt;have hr1:=hr.setMap (qqv ho) hJ' hh' (v' :=⟨0,0,0,fun i f=>qzc ku vu es2 i f⟩) rfl rfl rfl rfl (fun _ _=>jsq hent' hst') (c' :=c') rfl;obtain⟨hr2,_⟩:=ARel.setTo (tg:=tg) (T:= .o tg) (ob' := .mp ku vu es2) rfl hr1 (fun T' e=>by
  cases T' with
  |o t=>simp only[TG.ob]at e;subst e;simp only[aj,qqv hat,ec,Wd]
  |r t i f=>simp only[TG.ob]at e;subst e;rw[show aj (upd (vw s.H) (.o t) ⟨0,0,0,fun i f=>qzc ku vu es2 i f⟩) (.r t i f)=aj (vw s.H) (.r t i f) by simp only[aj,de (show TG.r t i f≠ .o t by simp)]];simp[aj,vw,hat,ho,vwR]) (fun T' v' e hv' =>by
  cases T' with
  |o t=>
   simp only[TG.ob]at e;subst e;rw[qqv hat]at hv';cases hv';exact⟨_,ec _ _ _,rfl,fun i f _ _ y hy=>hy,qki _⟩
  |r t i f=>simp only[TG.ob]at e;subst e;simp[vw,hat,vwR]at hv')
 exact hr2
theorem j3r(hF:dq P tt){t kt et:TypeId}{a1 b1:Nat}{z1:List Value}(ht:tt t=some ⟨.map kt et,a1,b1,z1⟩){ku:Ty}(hu:P.underlying kt=some ku.desc)(hone:ku.one=true){w:World}{g:Nat}{hs:Array MapEntry}{c:Nat}(hh:w.heap[g]? =some (.map hs c)){β:Type}{es:List (ku.den×β)}(hK:jpv ku hs.toList es)(hst:Stp hs c)(ka:ku.den)(xv:Value):
  ∃es' c',(Instr.mapUpdate t (.map (some g)) (ku.v1 ka) xv).run P w= .ok () {w with heap:=w.heap.setIfInBounds g (.map es' c')}/\Stp es' c' /\
   ((mIx ku ka es 0=none/\es' =hs.push {key:=ku.v1 ka,val:=xv,born:=c})\/∃j e p,mIx ku ka es 0=some j/\hs[j]? =some e/\es[j]? =some p/\e.key=ku.v1 ka/\es' =hs.modify j fun e=>{e with key:=ku.v1 ka,val:=xv}):=by
 have hck:=K4 (w:=w) hu (qsh hone ka) false 9999;rcases q3u hone ka hs.toList es 0 hK with⟨a0,_,a2⟩|⟨j,e,p,a0,_,a2,a4,a5,a6⟩
 ·have hfk:=Kn (w:=w) hu a2;exact⟨hs.push {key:=ku.v1 ka,val:=xv,born:=c},c+1,by simp[Instr.mapUpdate,Wq (oh hF ht),Ka hh,hck,hfk,Ha _ hh],hst.push _ _, .inl ⟨a0,rfl⟩⟩
 ·have hfk:=Kn (w:=w) hu a2;rw[WR]at hfk a0;have a4' :hs[j]? =some e:=by simpa using a4
  have hks:(Instr.keyThatStays (((hs[j]?).map (·.key)).getD (ku.v1 ka)) (ku.v1 ka)).run P w= .ok (ku.v1 ka) w:=by
   rw[a4'];simp only[Wd,WX,a6];exact MapKept.run_keyThatStays (qsh hone ka)
  exact⟨hs.modify j fun e=>{e with key:=ku.v1 ka,val:=xv},c,by simp[Instr.mapUpdate,Wq (oh hF ht),Ka hh,hck,hfk,hks,Ha _ hh],hst.modify _ _ _, .inr ⟨j,e,p,a0,a4',a5,a6,rfl⟩⟩
theorem jy7(hF:dq P tt){o:Oper}{s:TS}{a:Act}{w:World}{J:Pl}(hr:dr U w0 J0 K N s a w J){Hv:List TOb}(hl:HLe F Hv s.H){X:Ctx Rf}(hX:X.tt=tt){k:List St->TV->Option R}{r:R}{t:TypeId}{m key:Operand}{A B:TV}(hop:o.op= .lookup t m key false)
  (hA:VR (gr U (vw s.H) w J) A (a.eval m)) (hB:VR (gr U (vw s.H) w J) B (a.eval key)) (hk:jim X t A B Hv k=some r):qq P U w0 J0 K N o s a w k r:=by
 unfold jim at hk;split at hk
 ·rename_i kt et a1 b1 z1 ht;split at hk
  ·rename_i ki ei tg hki hei;split at hk
   ·rename_i ku u ety es hov;split at hk
    ·rename_i ka hka;have hb:=(ai hk).1
     replace hk:=(ai hk).2
     simp only[Wc]at hb;obtain⟨hb1,hb2,hb3⟩:=hb;rw[hX]at ht hki hei;obtain⟨hu,hone⟩:=qyy hF hki hb1;have hzero:=jac hF hei hb2 hb3 w;obtain⟨g,oo,hs,c,hm,hJ,hh,hmo⟩:=js5 (hl.sees hr.hr) hov hA;have hh:w.heap[g]? =some (.map hs c):=hh;have hkey:=q1n hka hB;have hck:=K4 (w:=w) hu (qsh hone ka) hs.isEmpty 9999;rcases q3u hone ka hs.toList es 0 (q4n hmo)with⟨a1,_,a3⟩|⟨j,e,p,a1,_,a3,a4,a5,_⟩
     ·have hfk:=Kn (w:=w) hu a3;rw[a1]at hk;refine qq.val hk (J' :=J) (w' :=w) (u:= .slice none 0 0) ?_ hr rfl;unfold execOp;simp[hop,hm,hkey,Instr.lookup,Wq (oh hF ht),Ka hh,hck,hfk,hzero]
     ·have hfk:=Kn (w:=w) hu a3;rw[a1,WR]at hk;have hv:=(hmo.at_ (i:=j) (e:=e) (by simpa using a4)).2;have hv:VR (gr U (vw s.H) w J) (moC tg ku es none j 1) e.val:=hv;rw[qms a5,if_neg (by simp)]at hv;refine qq.val hk (J' :=J) (w' :=w) (u:=e.val) ?_ hr hv;unfold execOp;simp[hop,hm,hkey,Instr.lookup,Wq (oh hF ht),Ka hh,hck,hfk]
    ·cases hk
   ·cases hk
  ·cases hk
 ·cases hk
theorem jzc(hF:dq P tt){o:Oper}{s:TS}{a:Act}{w:World}{J:Pl}(hr:dr U w0 J0 K N s a w J){Hv:List TOb}(hl:HLe F Hv s.H){X:Ctx Rf}(hX:X.tt=tt)(hK:∀t,bt X.kp t=false->K t=false){k:List St->TV->Option R}{r:R}{t kt et:TypeId}{a1 b1:Nat}{z1:List Value}(ht:tt t=some ⟨.map kt et,a1,b1,z1⟩){ki:TI}(hki:tt kt=some ki){tg:Nat}{ku u:Ty}{ety:TypeId}{es:List (ku.den×List u.den)}{h:Option Nat}(hov:Hv[tg]? =some (.mo ku u ety es h))
  {m key x:Operand} {B C:TV} (hrun:∀w',(Instr.mapUpdate t (a.eval m) (a.eval key) (a.eval x)).run P w= .ok () w' ->(execOp a.eval o).run P w= .ok .skip w')
  (hA:VR (gr U (vw s.H) w J) (.mp (.o tg)) (a.eval m)) (hB:VR (gr U (vw s.H) w J) B (a.eval key)) (hC:VR (gr U (vw s.H) w J) C (a.eval x)) (hk:jio X ki Hv tg ku u ety es h B C k=some r):qq P U w0 J0 K N o s a w k r:=by
 have ho:=hl.obo hov;have hlt:tg<s.H.length:=(Wh.1 ho).1;obtain⟨g,oo,hs,c,hm,hJ,hh,hmo⟩:=js5 (hl.sees hr.hr) hov hA;have hh:w.heap[g]? =some (.map hs c):=hh;have hJ' :J (.o tg)=some (g,oo):=hJ;unfold jio at hk;split at hk
 ·rename_i ka hka;have hb:=(ai hk).1
  replace hk:=(ai hk).2
  obtain⟨hu,hone⟩:=qyy hF hki hb;have hkey:=q1n hka hB;obtain⟨es',c',hupd,hst',hcase⟩:=j3r hF ht hu hone hh (q4n hmo) hmo.1 ka (a.eval x);rw[<-hm,<-hkey]at hupd;split at hk
  ·
   rename_i t' i f j;have hb1:=(ai hk).1
   replace hk:=(ai hk).2
   simp only[Wc]at hb1;obtain⟨⟨hb1,hb2⟩,hb3⟩:=hb1;have e1:=ax hb1;have e2:=ax hb2;have e3:=ax hb3;subst e1;subst e2;subst e3;have hix:=(cr hk).1
   replace hk:=(cr hk).2
   rcases hcase with⟨e0,_⟩|⟨j',e,p,e0,e4,e5,e6,e7⟩
   ·rw[e0]at hix;cases hix
   ·rw[e0]at hix;have:=ax hix;subst this;have hjs:j' <hs.size:=(W4.1 e4).1;have hkl:=q4n hmo;have hat:(s.H.set t' (.mo ku u ety es none))[t']? =some (.mo ku u ety es none):=Wl hlt;have hr1:=hr.setMap (qa0 ho) hJ' hh (v' :=⟨0,0,0,fun i f=>moC t' ku es none i f⟩) (es' :=es') rfl rfl rfl rfl (fun G' hmv=>wz.mk' hst' (fun i e' he' =>by
     rw[e7,Hc]at he';show moC t' ku es none i 0=_/\VR G' (moC t' ku es none i 1) _;by_cases hij:j' =i
     ·subst hij;rw[if_pos rfl,e4]at he';simp only[Wd,Wb]at he';subst he';refine⟨by rw[qgq e5];exact W0 TV.val ((hkl.2 _ e p (by simpa using e4) e5).symm.trans e6),?_⟩;rw[qms e5,if_neg (by simp)];have:=VR.mv hmv _ _ hC;rwa[TV.sb_id]at this
     ·rw[if_neg hij]at he';obtain⟨q1,q2⟩:=hmo.at_ he';have q1:moC t' ku es (some j') i 0=_:=q1;have q2:VR _ (moC t' ku es (some j') i 1) _:=q2;cases hp:es[i]? with
      |none=>rw[qrm hp]at q1;cases q1
      |some p' =>
       rw[qgq hp]at q1;rw[qms hp,if_neg (by simpa using hij)]at q2;refine⟨by rw[qgq hp];exact q1,?_⟩;rw[qms hp,if_neg (by simp)];have:=VR.mv hmv _ _ q2;rwa[TV.sb_id]at this) fun i he' =>by
      rw[e7,Hc]at he';have hno:hs[i]? =none:=by
       by_cases hij:j' =i
       ·subst hij;rw[if_pos rfl,e4]at he';cases he'
       ·rwa[if_neg hij]at he'
      have:=(hmo.no hno).1;have this:moC t' ku es (some j') i 0= .any:=this;show moC t' ku es none i 0=_/\moC t' ku es none i 1=_;cases hp:es[i]? with
      |none=>exact⟨qrm hp,qrm hp⟩
      |some p' =>rw[qgq hp]at this;cases this) (c' :=c') rfl
    obtain⟨hr2,_⟩:=ARel.setTo (tg:=t') (T:= .o t') (ob' := .mo ku u ety es none) rfl hr1 (fun T' e=>by
     cases T' with
     |o t=>simp only[TG.ob]at e;subst e;simp only[aj,qa0 hat,ec,Wd]
     |r t i f=>simp only[TG.ob]at e;subst e;simp only[aj,de (show TG.r t i f≠ .o t by simp),qm hat,qm ho]) (fun T' v' e hv' =>by
     cases T' with
     |o t=>
      simp only[TG.ob]at e;subst e;rw[qa0 hat]at hv';cases hv';exact⟨_,ec _ _ _,rfl,fun i f _ _ y hy=>hy,qki _⟩
     |r t i f=>
      simp only[TG.ob]at e;subst e;rw[qm hat]at hv';exact⟨v',by rw[de (show TG.r t i f≠ .o t by simp),qm ho];exact hv',rfl,fun i f _ _ y hy=>hy,qki _⟩)
    have hr2:dr U w0 J0 K N ⟨s.S,s.H.set t' (.mo ku u ety es none)⟩ a _ J:=hr2;refine⟨_,_,hk,fun Q KK h=> ?_⟩;unfold Oper.wp;rw[hrun _ hupd];exact h _ _ _ (hr2.put o.dst trivial)
  ·
   rename_i t2;split at hk
   ·rename_i ty2 fr2 its2 v ys hov2;split at hk
    ·rename_i h2 _;cases h2;have hb1:=(ai hk).1
     replace hk:=(ai hk).2
     simp only[Wc,WE]at hb1;obtain⟨⟨⟨hb1,hb2⟩,hb3⟩,hb4⟩:=hb1;have hix:=(cr hk).1
     replace hk:=(cr hk).2
     have ho2:=hl.ob hov2;have hne:t2≠tg:=fun e=>by rw[e,W5]at hb1;cases hb1
     rcases hcase with⟨e0,e7⟩|⟨j',e,p,e0,_⟩
     ·have hkr:=hr.kills (qo3 tg);have hG0:gr U (vw (cx (ba tg) s.H)) w J=gr U (vw s.H) w J:=by simp only[gr,qg9]
      have ho1:(cx (ba tg) s.H)[tg]? =some (.mo ku u ety es none):=by rw[ij,ho];rfl
      have ho12:(cx (ba tg) s.H)[t2]? =some (.arr ty2 (.fz fr2) its2 u ys):=ve ho2;have hlen:hs.size=es.length:=by have:=(q4n hmo).1;rwa[WO]at this
      generalize hvc:(fun(i f:Nat)=>if i=es.length then(match f with|0=>TV.val (ku.v1 ka)|1=> .own (.o t2)|_=> .any)else moC tg ku es none i f)=vc;have hr1:=hkr.setMap (qa0 ho1) hJ' hh (v' :=⟨0,0,0,vc⟩) (es' :=es') rfl rfl rfl rfl (fun G' hmv=>wz.mk' hst' (fun i e' he' =>by
       rw[e7,Array.getElem?_push]at he';show vc i 0=_/\VR G' (vc i 1) _;rw[<-hvc];rw[hG0]at hmv;by_cases hi:i=es.length
       ·subst hi;rw[if_pos hlen.symm]at he';simp only[Wb]at he';subst he';simp only[Kw];refine⟨trivial,?_⟩;have:=VR.mv hmv _ _ hC;rwa[TV.sb_id]at this
       ·rw[if_neg (by rw[hlen];exact hi)]at he';simp only[if_neg hi];obtain⟨q1,q2⟩:=hmo.at_ he';have q2:VR _ (moC tg ku es none i 1) _:=q2;refine⟨q1,?_⟩;have:=VR.mv hmv _ _ q2;rwa[TV.sb_id]at this) fun i he' =>by
       rw[e7]at he';have hi:hs.size<i:=by
        have:=Array.getElem?_eq_none_iff.1 he';simp at this;omega
       show vc i 0=_/\vc i 1=_;rw[<-hvc];simp only[if_neg (show¬i=es.length by omega)];have hp:es[i]? =none:=Wp (by omega);exact⟨qrm hp,qrm hp⟩) (c' :=c') rfl
      obtain⟨J',he,_⟩:=ARel.eatM (key:=ka) hr1 ho1 ho12 hne hb3 (ax hb4) (hK t2 hb2) rfl rfl rfl (fun i f=>by
       show _=(vc i f).sb _;rw[<-hvc];by_cases hi:i=es.length
       ·subst hi;simp only[Kw];have hp:(es++[(ka,ys)])[es.length]? =some (ka,ys):=by simp
        match f with
        |0=>rw[qgq hp];rfl
        |1=>rw[qms hp,if_neg (by simp)];simp[TV.sb,fm]
        |f+2=>simp[moC,TV.sb]
       ·simp only[if_neg hi];have hp:(es++[(ka,ys)])[i]? =es[i]? :=by
         rcases Wz i es.length with h' |h'
         ·exact Wo h'
         ·rw[Wp h',Wp (by simp;omega)]
        have e8:moC tg ku (es++[(ka,ys)]) none i f=moC tg ku es none i f:=by simp only[moC,hp]
        rw[e8];unfold moC;split
        ·split
         ·rfl
         ·simp[TV.sb,fm,hi]
         ·rfl
        ·rfl)
      have e1:(fun t=>(bu (sbS (ba tg) s.S) t).sb (fm t2 tg es.length 0))=bu (sbS (q6 t2 tg es.length 0) s.S):=by
       funext t;rw[fv,fv,TV.sb_sb (ba tg) (fm t2 tg es.length 0) (q6 t2 tg es.length 0) (q3s t2 tg es.length 0)]
      have e2:cx (fm t2 tg es.length 0) (cx (ba tg) s.H)=cx (q6 t2 tg es.length 0) s.H:=qgx (ba tg) (fm t2 tg es.length 0) (q6 t2 tg es.length 0) (q3s t2 tg es.length 0) s.H;rw[e2]at he;have he' :ARel U w0 J0 K N (fun t=>(bu (sbS (ba tg) s.S) t).sb (fm t2 tg es.length 0)) (vw (((cx (q6 t2 tg es.length 0) s.H).set tg (.mo ku u ety (es++[(ka,ys)]) none)).set t2 .gone)) a _ J' :=he;rw[e1]at he';have hr2:dr U w0 J0 K N ⟨sbS (q6 t2 tg es.length 0) s.S,((cx (q6 t2 tg es.length 0) s.H).set tg (.mo ku u ety (es++[(ka,ys)]) none)).set t2 .gone⟩ a _ J' :=he';refine⟨_,_,hk,fun Q KK h=> ?_⟩;unfold Oper.wp;rw[hrun _ hupd];exact h _ _ _ (hr2.put o.dst trivial)
     ·rw[e0]at hix;cases hix
    ·cases hk
   ·cases hk
  ·cases hk
 ·cases hk
theorem js6(hF:dq P tt){o:Oper}{s:TS}{a:Act}{w:World}{J:Pl}(hr:dr U w0 J0 K N s a w J){Hv:List TOb}(hl:HLe F Hv s.H){X:Ctx Rf}(hX:X.tt=tt)(hK:∀t,bt X.kp t=false->K t=false){k:List St->TV->Option R}{r:R}{t:TypeId}{m key x:Operand}{A B C:TV}(hrun:∀w',(Instr.mapUpdate t (a.eval m) (a.eval key) (a.eval x)).run P w= .ok () w' ->(execOp a.eval o).run P w= .ok .skip w')
  (hA:VR (gr U (vw s.H) w J) A (a.eval m)) (hB:VR (gr U (vw s.H) w J) B (a.eval key)) (hC:VR (gr U (vw s.H) w J) C (a.eval x)) (hk:jd4 X t A B C Hv k=some r):qq P U w0 J0 K N o s a w k r:=by
 unfold jd4 at hk;split at hk
 ·rename_i kt et a1 b1 z1 ht;split at hk
  ·rename_i ki tg hki;split at hk
   ·rename_i ku vu es hov;split at hk
    ·rename_i ka xb hka hxb;have hb:=(ai hk).1
     replace hk:=(ai hk).2
     rw[hX]at ht hki;obtain⟨hu,hone⟩:=qyy hF hki hb;have ho:=hl.obm hov;obtain⟨g,oo,hs,c,hm,hJ,hh,hent,hst⟩:=q4g (hl.sees hr.hr) hov hA;have hkey:=q1n hka hB;have hval:=q1n hxb hC;have hJ' :J (.o tg)=some (g,oo):=hJ;have hh' :w.heap[g]? =some (.map hs c):=hh;obtain⟨es',c',hupd,hent',hst'⟩:∃es' c',(Instr.mapUpdate t (a.eval m) (a.eval key) (a.eval x)).run P w= .ok () {w with heap:=w.heap.setIfInBounds g (.map es' c')}/\qt6 ku vu es'.toList (qdf ku ka xb es)/\Stp es' c' :=by
      rw[hm,hkey,hval];have hck:=K4 (w:=w) hu (qsh hone ka) false 9999;rcases q3t hone ka hs.toList es 0 hent with⟨_,a2,a3,_⟩|⟨j,y',e,_,a2,a4,a5,a3,_⟩
      ·have hfk:=Kn (w:=w) hu a2;refine⟨hs.push {key:=ku.v1 ka,val:=vu.v1 xb,born:=c},c+1,by simp[Instr.mapUpdate,Wq (oh hF ht),Ka hh',hck,hfk,Ha _ hh'],?_,hst.push _ _⟩;rw[a3];obtain⟨h1,h2⟩:=hent.at_;refine qt6.of (by simp at h1⊢;omega) fun i e p he hp=> ?_
       rcases Wz i hs.size with hi|hi
       ·simp only[Array.toList_push]at he;rw[Wo (by simpa using hi)]at he;rw[Wo (by rw[<-h1];simpa using hi)]at hp;exact h2 i e p he hp
       ·simp only[Array.toList_push]at he;rw[Wu (by simpa using hi)]at he;rw[Wu (by rw[<-h1];simpa using hi)]at hp;rw[h1]at he;cases hz:i-es.length with
        |zero=>
         rw[hz]at he hp;simp at he hp;subst he hp;exact⟨rfl,rfl⟩
        |succ n=>rw[hz]at he;simp at he
      ·have hfk:=Kn (w:=w) hu a2;rw[WR]at hfk;have a4' :hs[j]? =some e:=by simpa using a4
       have hks:(Instr.keyThatStays (((hs[j]?).map (·.key)).getD (ku.v1 ka)) (ku.v1 ka)).run P w= .ok (ku.v1 ka) w:=by
        rw[a4'];simp only[Wd,WX,a5];exact MapKept.run_keyThatStays (qsh hone ka)
       refine⟨hs.modify j fun e=>{e with key:=ku.v1 ka,val:=vu.v1 xb},c,by simp[Instr.mapUpdate,Wq (oh hF ht),Ka hh',hck,hfk,hks,Ha _ hh'],?_,hst.modify _ _ _⟩;rw[a3];obtain⟨h1,h2⟩:=hent.at_;refine qt6.of (by simp at h1⊢;omega) fun i e' p he hp=> ?_
       rw[WY,Hc]at he;rw[KY]at hp;by_cases hi:j=i
       ·subst hi;rw[if_pos rfl,a4']at he;rw[if_pos rfl]at hp;split at hp
        ·simp at he hp;subst he hp;exact⟨rfl,rfl⟩
        ·cases hp
       ·rw[if_neg hi]at he hp;exact h2 i e' p (by simpa using he) hp
     have hr2:dr U w0 J0 K N ⟨s.S,s.H.set tg (.mp ku vu (qdf ku ka xb es))⟩ a _ J:=ji0 hr ho hJ' hh' (c' :=c') hent' hst';refine⟨_,_,hk,fun Q KK h=> ?_⟩;unfold Oper.wp;rw[hrun _ hupd];exact h _ _ _ (hr2.put o.dst trivial)
    ·cases hk
   ·rename_i ku u ety es h hov;rw[hX]at ht hki;exact jzc hF hr hl hX hK ht hki hov hrun hA hB hC hk
   ·cases hk
  ·cases hk
 ·cases hk
theorem j2z(hF:dq P tt){o:Oper}{s:TS}{a:Act}{w:World}{J:Pl}(hr:dr U w0 J0 K N s a w J){Hv:List TOb}(hl:HLe F Hv s.H){X:Ctx Rf}(hX:X.tt=tt){k:List St->TV->Option R}{r:R}{t t2:TypeId}{m key:Operand}{A B:TV}(hop:o.op= .call ⟨.builtin .delete,⟨[m,key]⟩,⟨[t,t2]⟩⟩)
  (hA:VR (gr U (vw s.H) w J) A (a.eval m)) (hB:VR (gr U (vw s.H) w J) B (a.eval key)) (hk:jil X t A B Hv k=some r):qq P U w0 J0 K N o s a w k r:=by
 unfold jil at hk;split at hk
 ·rename_i kt et a1 b1 z1 ht;split at hk
  ·rename_i ki tg hki;split at hk
   ·rename_i ku vu es hov;split at hk
    ·rename_i ka hka;have hb:=(ai hk).1
     replace hk:=(ai hk).2
     rw[hX]at ht hki;obtain⟨hu,hone⟩:=qyy hF hki hb;have ho:=hl.obm hov;obtain⟨g,oo,hs,c,hm,hJ,hh,hent,hst⟩:=q4g (hl.sees hr.hr) hov hA;have hkey:=q1n hka hB;have hJ' :J (.o tg)=some (g,oo):=hJ;have hh' :w.heap[g]? =some (.map hs c):=hh;obtain⟨es',c',hupd,hent',hst'⟩:∃es' c',(Builtin.delete_ #[t,t2] o.type #[a.eval m,a.eval key]).run P w= .ok (.tuple #[]) {w with heap:=w.heap.setIfInBounds g (.map es' c')}/\qt6 ku vu es'.toList (jk3 ku ka es)/\Stp es' c' :=by
      rw[hm,hkey];have hck:=K4 (w:=w) hu (qsh hone ka) hs.isEmpty 9999;rcases q3t hone ka hs.toList es 0 hent with⟨_,a2,_,a3⟩|⟨j,y',e,_,a2,a4,a5,_,a3⟩
      ·have hfk:=Kn (w:=w) hu a2;exact⟨hs,c,by simp[Builtin.delete_,Wq (oh hF ht),Ka hh',hck,hfk,Ha _ hh'],by rw[a3];exact hent,hst⟩
      ·have hfk:=Kn (w:=w) hu a2;rw[WR]at hfk;refine⟨hs.eraseIdxIfInBounds j,c,by simp[Builtin.delete_,Wq (oh hF ht),Ka hh',hck,hfk,Ha _ hh'],?_,hst.sub (by rw[show(hs.eraseIdxIfInBounds j).toList=hs.toList.eraseIdx j by simp];exact List.eraseIdx_sublist _ _)⟩;rw[a3];obtain⟨h1,h2⟩:=hent.at_;have hj:j<hs.size:=by
        rcases Wz j hs.size with h' |h'
        ·exact h'
        ·rw[Wp (by simpa using h')]at a4;cases a4
       rw[WO]at h1;have he:(hs.eraseIdxIfInBounds j).toList=hs.toList.eraseIdx j:=by simp
       rw[he];refine qt6.of (by simp[List.length_eraseIdx,h1]) fun i e' p he' hp=> ?_
       rw[List.getElem?_eraseIdx]at he' hp;split at he'
       ·rename_i hlt;rw[if_pos hlt]at hp;exact h2 i e' p he' hp
       ·rename_i hlt;rw[if_neg hlt]at hp;exact h2 (i+1) e' p he' hp
     have hr2:dr U w0 J0 K N ⟨s.S,s.H.set tg (.mp ku vu (jk3 ku ka es))⟩ a _ J:=ji0 hr ho hJ' hh' (c' :=c') hent' hst';have hrun:(execOp a.eval o).run P w= .ok (.value (.tuple #[])) {w with heap:=w.heap.setIfInBounds g (.map es' c')}:=by
      unfold execOp;simp only[hop,resolve,invoke,builtin,WJ,WU,Wy,Hm,Kd,KH,hupd]
     exact qq.val hk hrun hr2 trivial
    ·cases hk
   ·cases hk
  ·cases hk
 ·cases hk
def Vw.putN(v:Vw)(st:Nat)(L:List TV):Vw:={v with cs:=fun i f=>if st<=i*v.sz+f/\i*v.sz+f<st+L.length then L.getD (i*v.sz+f-st) .any else v.cs i f}
theorem ARel.writeN{S:Nat->TV}{V:TG->Option Vw}{a:Act}{w:World}{J:Pl}(h:ARel U w0 J0 K N S V a w J){T:TG}{v:Vw}(hT:V T=some v){g o:Nat}(hJ:J T=some (g,o)){st:Nat}{new:List Value}{L:List TV}(hn:0<v.n)(hfit:st+L.length<=v.n*v.sz)
  (hnew:mm (gr U V w J) new L) {cur:Array Value} (hcur:w.heap[g]? =some (.cells cur v.ty (0,0))):
  ARel U w0 J0 K N S (upd V T (v.putN st L)) a (w.setRow g (cur.toList.take (o+st)++new++cur.toList.drop (o+st+new.length)).toArray) J:=by
 have hob:=h.hr.obj T v hT;rw[hJ]at hob;obtain⟨cur',c,hcur',hcs,hle,hcells⟩:=hob.cells (.inr hn);have hcur' :w.heap[g]? =some (.cells cur' v.ty (0,0)):=hcur';rw[hcur]at hcur';simp only[Wb,KO]at hcur';obtain⟨rfl,_⟩:=hcur';have hlen:=hnew.1.len;have hlt:o+st+new.length<=cur.size:=by
  have:v.n*v.sz<=c*v.sz:=WC _ hle;rw[hcs,hlen];omega
 generalize hw' :w.setRow g (cur.toList.take (o+st)++new++cur.toList.drop (o+st+new.length)).toArray=w';have hrow:w'.heap[g]? =some (.cells (cur.toList.take (o+st)++new++cur.toList.drop (o+st+new.length)).toArray v.ty (0,0)):=by rw[<-hw'];exact setRow_heap w g cur _ v.ty _ hcur
 have hother:∀k,k≠g->w'.heap[k]? =w.heap[k]? :=fun k hk=>by rw[<-hw'];exact setRow_other w g k _ hk
 have hsize:w'.heap.size=w.heap.size:=by rw[<-hw'];simp
 have hcsz:(cur.toList.take (o+st)++new++cur.toList.drop (o+st+new.length)).toArray.size=cur.size:=by simp;omega
 have key:∀j,(cur.toList.take (o+st)++new++cur.toList.drop (o+st+new.length)).toArray[j]? =
   if o+st<=j/\j<o+st+new.length then new[j-(o+st)]? else cur[j]? :=by
  intro j;rw[List.getElem?_toArray,HE];rcases Wz j (o+st)with h1|h1
  ·rw[Wo (by simp;omega),WZ,if_pos h1,WY,if_neg (by omega)]
  ·rw[Wu (by simp;omega)];have hl:(cur.toList.take (o+st)).length=o+st:=by simp;omega
   rw[hl];rcases Wz j (o+st+new.length)with h2|h2
   ·rw[Wo (by omega),if_pos ⟨h1,h2⟩]
   ·rw[Wu (by omega),if_neg (by omega),WI,WY];congr 1;omega
 have hI:aj (upd V T (v.putN st L))=aj V:=jdm hT rfl rfl;have hown:da J g:=⟨T,o,hJ⟩;have hm:Mv (fun _=> .id) (gr U V w J) (gr U (upd V T (v.putN st L)) w' J):=by
  refine⟨Nat.le_of_eq hsize.symm,fun _ _ hx=>hx,fun _ _ _ hu=>hu,fun b _ hx=>hother b (fun e=>hx (e▸hown)),fun T1 T2 q ht hq=> ?_,fun T1 fr u xs q e=>by cases e⟩;rcases ht with⟨_,rfl⟩|ht
  ·refine⟨by show aj _ T2=_;rw[hI];exact hq,fun g1 o1 hg1=>⟨hg1,fun cur1 e1 hc1=> ?_⟩⟩;by_cases e:g1=g
   ·subst e;have hc1' :w.heap[g1]? =some (.cells cur1 e1 (0,0)):=hc1;rw[hcur]at hc1';simp only[Wb,KO]at hc1';obtain⟨rfl,rfl,_⟩:=hc1';exact⟨_,hrow,hcsz⟩
   ·exact⟨cur1,(hother g1 e).trans hc1,rfl⟩
  ·cases ht
 refine h.go hm (fun t=>(TV.sb_id _).symm) ⟨h.hr.inj,fun T1 p hp=> ?_,fun T1 v1 hv1=> ?_,h.hr.own,?_,?_,?_,by rw[hsize];exact h.hr.size,fun b hb hnb=> ?_,h.hr.keep,fun t g1 o1 ht hg1 cur1 e1 hc1=> ?_,h.hr.ulow,h.hr.tb0⟩
 ·by_cases e:T1=T
  ·exact⟨v.putN st L,by simp[upd,e]⟩
  ·obtain⟨v1,hv1⟩:=h.hr.dom T1 p hp;exact⟨v1,by simp[upd,e,hv1]⟩
 ·by_cases e:T1=T
  ·subst e;simp only[upd,Kw,Wb]at hv1;subst hv1;rw[hJ];refine .inl ⟨.inr hn,_,c,hrow,by rw[hcsz,hcs];rfl,hle,fun i' f' hi' hf' => ?_⟩;have hf' :f' <v.sz:=hf'
   suffices hsuf:∀G',G' =gr U (upd V T1 (v.putN st L)) w' J->∃u,(cur.toList.take (o+st)++new++cur.toList.drop (o+st+new.length)).toArray[o+(i' *v.sz+f')]? =some u/\u.oneCell' =true/\
     VR G' (if st<=i' *v.sz+f' /\i' *v.sz+f' <st+L.length then L.getD (i' *v.sz+f' -st) .any else v.cs i' f') u from hsuf _ rfl
   intro G' hG';rw[<-hG']at hm;rw[key];by_cases hin:st<=i' *v.sz+f' /\i' *v.sz+f' <st+L.length
   ·rw[if_pos (by omega),if_pos hin];obtain⟨u,hu,hVu⟩:=hnew.1.getD (i' *v.sz+f' -st) (by omega);refine⟨u,?_,hnew.2 u (WV hu),?_⟩
    ·rw[<-hu];congr 1;omega
    ·have:=VR.mv hm _ u hVu;rwa[TV.sb_id]at this
   ·rw[if_neg (by omega),if_neg hin];obtain⟨u,hu,h1,hVu⟩:=hcells i' f' hi' hf';refine⟨u,hu,h1,?_⟩;have:=VR.mv hm _ u hVu;rwa[TV.sb_id]at this
  ·have hv1' :V T1=some v1:=by simpa[upd,e]using hv1
   refine(h.hr.obj T1 v1 hv1').mv hm (fun g1 o1 hp=>hother g1 (fun eg=> ?_)) rfl rfl rfl (fun i' f' _ _ u hu=>by have:=VR.mv hm _ u hu;rwa[TV.sb_id]at this) (fun _ _=>HZ.of hm fun _ _=>(TV.sb_id _).symm);subst eg;exact e (h.hr.inj T1 T g1 o1 o hp hJ)
 ·rw[<-hw'];exact h.hr.os
 ·rw[<-hw'];exact h.hr.tape
 ·rw[<-hw'];exact h.hr.output
 ·refine(hother b (fun e=> ?_)).trans (h.hr.blk b hb hnb);subst e;rcases(h.hr.own T b o hJ).2 with hge|⟨T',o',h'⟩
  ·omega
  ·exact hnb T' o' h'
 ·obtain⟨cur2,h1,h2⟩:=h.hr.ksz t g1 o1 ht hg1 cur1 e1 hc1;by_cases e:g1=g
  ·subst e;rw[hcur]at h1;simp only[Wb,KO]at h1;obtain⟨rfl,rfl,_⟩:=h1;exact⟨_,hrow,hcsz.trans h2⟩
  ·exact⟨cur2,(hother g1 e).trans h1,h2⟩
theorem jv4(w:World)(dT sT ty elem:TypeId)(g o dLen dCap:Nat)(a:Addr)(sLen sCap:Nat)(cur:Array Value)(t:TypeId)(cs:List Value){inf:TypeInfo}
  (hu:P.underlying dT=some (.slice elem)) (hi:P.info? elem=some inf)
  (hg:w.heap[g]? =some (.cells cur t (0,0))) (hn:cs.length=Nat.min sLen dLen*inf.size)
  (hsrc:∀j v,cs[j]? =some v->w.cell? (a.add j)=some v) (hfit:o+cs.length<=cur.size) (h1:∀v∈cs,v.oneCell' =true):
  (Builtin.copy_ #[dT,sT] ty #[.slice (some ⟨g,o,none⟩) dLen dCap, .slice (some a) sLen sCap]).run P w=
   .ok (goInt (Nat.min sLen dLen)) (w.setRow g (cur.toList.take o++cs++cur.toList.drop (o+cs.length)).toArray):=by
 have hl:=run_loadCells_list (P:=P) w a cs hsrc;have hst:=run_storeCells_at P g o t cs 0 cur w hg (by simpa using hfit) h1;simp[Builtin.copy_,Wq hu,Builtin.lenOf,Builtin.firstCells,sizeOf,typeInfo,hi,<-hn,hl,hst]
theorem jv3(w:World)(dT sT ty elem:TypeId)(b a:Option Addr)(dLen dCap sLen sCap:Nat){inf:TypeInfo}(hu:P.underlying dT=some (.slice elem))(hi:P.info? elem=some inf)(h0:Nat.min sLen dLen=0):
  (Builtin.copy_ #[dT,sT] ty #[.slice b dLen dCap, .slice a sLen sCap]).run P w= .ok (goInt (Nat.min sLen dLen)) w:=by
 cases a<;>cases b<;>simp[Builtin.copy_,Wq hu,Builtin.lenOf,Builtin.firstCells,sizeOf,typeInfo,hi,h0,loadCells,loadCellsFrom,storeCells]
theorem jxs{α:Type}(xs:List α){off n:Nat}(ys:List α)(hle:off+n<=xs.length)(i:Nat)(z:α):(qca xs off n ys).getD i z=if off<=i/\i<off+min ys.length n then ys.getD (i-off) z else xs.getD i z:=by
 unfold qca;simp only[Wa];rcases Wz i off with h1|h1
 ·rw[Wo (by simp;omega),WZ,if_pos h1,if_neg (by omega)]
 ·rw[Wu (by simp;omega)];have hl:(xs.take off).length=off:=by simp;omega
  rw[hl];rcases Wz i (off+min ys.length n)with h2|h2
  ·rw[Wo (by simp;omega),if_pos ⟨h1,h2⟩,WZ,if_pos (by omega)]
  ·rw[Wu (by simp;omega),if_neg (by omega),WI];congr 2;simp only[Kg];omega
theorem jux{α:Type}(xs:List α){off n:Nat}(ys:List α)(hle:off+n<=xs.length):(qca xs off n ys).length=xs.length:=by
 unfold qca;simp;omega
theorem jh8{s:TS}{a:Act}{w:World}{J:Pl}(h:dr U w0 J0 K N s a w J){tg:Nat}{ty:TypeId}{fr fr' :Bool}{its:List TypeId}{u:Ty}{xs ys:List u.den}(ho:s.H[tg]? =some (.arr ty (.fz fr) its u xs)){off n:Nat}{vd:Value}(hd:SlR w J (.o tg) u.sz off n vd)(hle:off+n<=xs.length)(hpos:0<u.sz)
  {M:Sem Value} {out:Value} {news:List Value} (hl:news.length=ys.length*u.sz) (h1:∀v∈news,v.oneCell' =true) (hsrc:∀i f,i<ys.length->f<u.sz->∃y,news[i*u.sz+f]? =some y/\VR (gr U (vw s.H) w J) ((u.cells fr' (ys.getD i u.dft)).getD f .any) y)
  (hr0:min ys.length n=0->M.run P w= .ok out w)
  (hr1:∀g o cc cur e,0<min ys.length n->vd= .slice (some ⟨g,o+off*u.sz,none⟩) n cc->w.heap[g]? =some (.cells cur e (0,0))->o+off*u.sz+(news.take (min ys.length n*u.sz)).length<=cur.size->
   M.run P w= .ok out (w.setRow g (cur.toList.take (o+off*u.sz)++news.take (min ys.length n*u.sz)++cur.toList.drop (o+off*u.sz+(news.take (min ys.length n*u.sz)).length)).toArray)):
  ∃w',M.run P w= .ok out w' /\dr U w0 J0 K N ⟨s.S,s.H.set tg (.arr ty (.fz (fr&&fr')) its u (qca xs off n ys))⟩ a w' J:=by
 have hlt:tg<s.H.length:=(Wh.1 ho).1;have hat:(s.H.set tg (.arr ty (.fz (fr&&fr')) its u (qca xs off n ys)))[tg]? =some (.arr ty (.fz (fr&&fr')) its u (qca xs off n ys)):=Wl hlt;have hlen:=jux xs ys hle;have hmin:Nat.min ys.length n=min ys.length n:=rfl;have tell:∀(w' :World) (v1:Vw),v1.ty=ty->v1.sz=u.sz->v1.n=xs.length->ARel U w0 J0 K N (bu s.S) (upd (vw s.H) (.o tg) v1) a w' J->
   (∀i f,i<xs.length->f<u.sz->∀y,VR (gr U (vw s.H) w' J) (v1.cs i f) y->(off<=i/\i<off+min ys.length n/\VR (gr U (vw s.H) w' J) ((u.cells fr' (ys.getD (i-off) u.dft)).getD f .any) y)\/(¬(off<=i/\i<off+min ys.length n)/\VR (gr U (vw s.H) w' J) ((u.cells fr (xs.getD i u.dft)).getD f .any) y))->
   dr U w0 J0 K N ⟨s.S,s.H.set tg (.arr ty (.fz (fr&&fr')) its u (qca xs off n ys))⟩ a w' J:=by
  intro w' v1 e1 e2 e3 hr hc;refine ARel.setTell (T:= .o tg) (ob' := .arr ty (.fz (fr&&fr')) its u (qca xs off n ys)) (az ho) hr e3 e2 (fun T' e=> ?_) (fun T' v' e hv' => ?_)
  ·cases T' with
   |o t=>simp only[TG.ob]at e;subst e;simp only[TG.ob,aj,az hat,az ho,Wd,hlen]
   |r t i f=>simp only[TG.ob]at e;subst e;simp only[aj,TG.ob,l9 hat,l9 ho,Md.isOwn];simp
  ·cases T' with
   |o t=>
    simp only[TG.ob]at e;subst e;simp only[TG.ob,az hat,Wb]at hv';subst hv';refine⟨_,ec _ _ _,e1.symm,fun i f hi' hf' y hy=> ?_,fun e _=>absurd (e2.symm.trans e) (by omega)⟩;rw[e3]at hi';rw[e2]at hf';show VR _ (b7 t (.fz (fr&&fr')) u (qca xs off n ys) i f) y;rw[ns,jxs xs ys hle,<-Ty.C_iff _ _ _ _ _ _ hf'];rcases hc i f hi' hf' y hy with⟨h1,h2,hV⟩|⟨h1,hV⟩
    ·rw[if_pos ⟨h1,h2⟩];exact Ty.C_fr (G:=gr U (vw s.H) w' J) (fun e=>by simp at e;exact e.2) ((Ty.C_iff (gr U (vw s.H) w' J) fr' u _ f y hf').2 hV)
    ·rw[if_neg h1];exact Ty.C_fr (G:=gr U (vw s.H) w' J) (fun e=>by simp at e;exact e.1) ((Ty.C_iff (gr U (vw s.H) w' J) fr u _ f y hf').2 hV)
   |r t i f=>simp only[TG.ob]at e;subst e;simp only[TG.ob,l9 hat,Md.isOwn]at hv';simp at hv'
 rcases HD (min ys.length n)with hm0|hm0
 ·refine⟨w,hr0 hm0,tell w ⟨ty,u.sz,xs.length,fun i f=>b7 tg (.fz fr) u xs i f⟩ rfl rfl rfl ?_ (fun i f _ _ y hy=> .inr ⟨by omega,by simpa only[ns]using hy⟩)⟩;have:upd (vw s.H) (.o tg) ⟨ty,u.sz,xs.length,fun i f=>b7 tg (.fz fr) u xs i f⟩=vw s.H:=by
   funext T;by_cases e:T= .o tg
   ·subst e;rw[ec,az ho]
   ·rw[de e]
  rw[this];exact h
 ·rcases hd with⟨b,rfl,rfl⟩|⟨g,o,cc,cur,e,hJ,rfl,hn,hcm,hh,hcs⟩
  ·simp at hm0
  ·have hob:=h.hr.obj _ _ (az ho);rw[hJ]at hob;obtain⟨cur2,c2,hh2,hs2,hle2,hcell⟩:=hob.cells (.inl hpos);have hh2:w.heap[g]? =some (.cells cur2 ty (0,0)):=hh2;rw[hh]at hh2;simp only[Wb,KO]at hh2;obtain⟨rfl,rfl,_⟩:=hh2;have hmul:min ys.length n*u.sz<=ys.length*u.sz:=WC _ (by omega);have hcl:(news.take (min ys.length n*u.sz)).length=min ys.length n*u.sz:=by rw[Kg,hl];omega
   have hmul2:min ys.length n*u.sz<=cc*u.sz:=WC _ (by omega);have hrun:=hr1 g o cc cur e hm0 rfl hh (by rw[hcl,hcs,WM];omega);refine⟨_,hrun,?_⟩;let L:List TV:=(List.range (min ys.length n*u.sz)).map fun j=>(u.cells fr' (ys.getD (j/u.sz) u.dft)).getD (j % u.sz) .any
   have hLl:L.length=min ys.length n*u.sz:=by simp[L]
   have hLat:∀j,j<min ys.length n*u.sz->L.getD j .any=(u.cells fr' (ys.getD (j/u.sz) u.dft)).getD (j % u.sz) .any:=by
    intro j hj;simp only[L,Wa,W6,HJ hj,Wd,WX]
   have hC:mm (gr U (vw s.H) w J) (news.take (min ys.length n*u.sz)) L:=by
    refine⟨gf.of (by rw[hcl,hLl]) fun j A y hA hy=> ?_,fun v hv=>h1 v (K2 hv)⟩;have hj:j<min ys.length n*u.sz:=by
     have:=(Wh.1 hA).1;omega
    have hA2:A=L.getD j .any:=by rw[Wa,hA];rfl
    rw[hA2,hLat j hj];obtain⟨y',hy',hV⟩:=hsrc (j/u.sz) (j % u.sz) (by have:=(Nat.div_lt_iff_lt_mul hpos).2 hj;omega) (Nat.mod_lt _ hpos);rw[Nat.div_add_mod']at hy';rw[WZ,if_pos hj,hy']at hy;cases hy;exact hV
   have hbnd:off*u.sz+min ys.length n*u.sz<=xs.length*u.sz:=by
    rw[<-WM];exact WC _ (by omega)
   have hr:=h.writeN (az ho) hJ (st:=off*u.sz) (L:=L) (show 0<xs.length by omega) (by rw[hLl];exact hbnd) hC hh;refine tell _ _ rfl rfl rfl hr fun i f hi' hf' y hy=> ?_
   simp only[Vw.putN,hLl]at hy;by_cases hin:off<=i/\i<off+min ys.length n
   ·have h2:off*u.sz<=i*u.sz:=WC _ hin.1;have h3:(i-off+1)*u.sz<=min ys.length n*u.sz:=WC _ (by omega);have h4:(i-off)*u.sz=i*u.sz-off*u.sz:=Nat.sub_mul ..;rw[WM]at h3;have h5:i*u.sz+f-off*u.sz=(i-off)*u.sz+f:=by omega
    rw[if_pos (by omega),hLat _ (by omega),h5,HT (i-off),Nat.mul_add_div hpos,Nat.div_eq_of_lt hf',Nat.mul_add_mod,Nat.mod_eq_of_lt hf',KU]at hy;exact .inl ⟨hin.1,hin.2,hy⟩
   ·refine .inr ⟨hin,?_⟩;rw[if_neg,ns]at hy
    ·exact hy
    ·intro hcon;apply hin;have a1:off<=i:=by
      rcases Wz i off with h' |h'
      ·have:(i+1)*u.sz<=off*u.sz:=WC _ h';rw[WM]at this;omega
      ·exact h'
     refine⟨a1,?_⟩;rcases Wz i (off+min ys.length n)with h' |h'
     ·exact h'
     ·have:(off+min ys.length n)*u.sz<=i*u.sz:=WC _ h';rw[WM]at this;omega
theorem juz(hF:dq P tt){s:TS}{a:Act}{w:World}{J:Pl}(h:dr U w0 J0 K N s a w J){tg:Nat}{ty:TypeId}{fr fr' :Bool}{its:List TypeId}{u:Ty}{xs ys:List u.den}(ho:s.H[tg]? =some (.arr ty (.fz fr) its u xs)){off n:Nat}{vd sv:Value}(hd:SlR w J (.o tg) u.sz off n vd)(hle:off+n<=xs.length)
  (hs:w9 (gr U (vw s.H) w J) u.sz ys.length (fun i f=>(u.cells fr' (ys.getD i u.dft)).getD f .any) sv) (hpos:0<u.sz) {t t' ty2 el:TypeId} {inf:TypeInfo} (hut:P.underlying t=some (.slice el)) (hi:P.info? el=some inf) (hsz:inf.size=u.sz):
  ∃w',(Builtin.copy_ #[t,t'] ty2 #[vd,sv]).run P w= .ok (goInt (Nat.min ys.length n)) w' /\dr U w0 J0 K N ⟨s.S,s.H.set tg (.arr ty (.fz (fr&&fr')) its u (qca xs off n ys))⟩ a w' J:=by
 obtain⟨sa,c,news,rfl,hl,hsa,h1,hsrc⟩:=hs.news hpos;refine jh8 h ho hd hle hpos hl h1 hsrc (fun hm0=> ?_) (fun g o cc cur e hm0 e1 hh hfit=> ?_)
 ·obtain⟨b,dc,rfl⟩:∃b dc,vd= .slice b n dc:=by
   rcases hd with⟨b,rfl,rfl⟩|⟨g,o,cc,cur,e,_,rfl,_⟩<;>exact⟨_,_,rfl⟩
  exact jv3 w t t' ty2 el b sa n dc ys.length c hut hi hm0
 ·subst e1;obtain⟨ad,rfl,hnews⟩:=hsa (by omega);have hcl:(news.take (min ys.length n*u.sz)).length=min ys.length n*u.sz:=by
   have:min ys.length n*u.sz<=ys.length*u.sz:=WC _ (by omega);rw[Kg,hl];omega
  exact jv4 (P:=P) w t t' ty2 el g (o+off*u.sz) n cc ad ys.length c cur e (news.take (min ys.length n*u.sz)) hut hi hh (by rw[hcl,hsz])
   (fun j v hj=>hnews j v (by rw[WZ]at hj;split at hj;exact hj;cases hj)) hfit (fun v hv=>h1 v (K2 hv))
theorem j1v(hF:dq P tt){o:Oper}{s:TS}{a:Act}{w:World}{J:Pl}(hr:dr U w0 J0 K N s a w J){Hv:List TOb}(hl:HLe F Hv s.H){X:Ctx Rf}(hK:∀t,bt X.kp t=false->K t=false){k:List St->TV->Option R}{r:R}{t t' el:TypeId}{b1 b2:Nat}{z1:List Value}{d x:Operand}{u:Ty}{ei:TI}{A B:TV}
  (hop:o.op= .call ⟨.builtin .copy,⟨[d,x]⟩,⟨[t,t']⟩⟩) (ht:tt t=some ⟨.slice el,b1,b2,z1⟩) (hel:elT tt el=some (u,ei)) (hd:VR (gr U (vw s.H) w J) A (a.eval d)) (hx:VR (gr U (vw s.H) w J) B (a.eval x)) (hk:jh6 X u A B Hv k=some r):qq P U w0 J0 K N o s a w k r:=by
 obtain⟨hti,husz,hpos,_,_,_⟩:=q7c hel;obtain⟨inf,_,_,hi,_,_,hi4,_⟩:=(hF el ei hti).1;unfold jh6 at hk;split at hk
 ·rename_i δ fr' ys hsrc;obtain⟨J1,hr1,hl1,hmv,hs⟩:=jt0 hK hr hl hsrc hx;have hd1:=hmv _ _ hd;generalize vAps A δ=A' at hk hd1;have fin:∀{tg:Nat} {ty:TypeId} {fr:Bool} {its:List TypeId} {xs:List u.den} {off n:Nat},(s.aps δ).H[tg]? =some (.arr ty (.fz fr) its u xs)->SlR w J1 (.o tg) u.sz off n (a.eval d)->off+n<=xs.length->k (δ++[.set tg (.arr ty (.fz (fr&&fr')) its u (qca xs off n ys))]) (.int .i64 ((min ys.length n:Nat):Int))=some r->qq P U w0 J0 K N o s a w k r:=by
   intro tg ty fr its xs off n ho hsl hle hk;obtain⟨w',hrun,hr2⟩:=juz hF hr1 ho hsl hle hs (by omega) (t' :=t') (ty2:=o.type) (jh hF ht) hi (by omega);have hrun:(execOp a.eval o).run P w= .ok (.value (goInt (Nat.min ys.length n))) w' :=by
    unfold execOp;simp only[hop,resolve,invoke,builtin,WJ,WU,Wy,Hm,Kd,KH,hrun]
   refine qq.val (J' :=J1) hk hrun (by rw[qja];exact hr2) ?_;show goInt (Nat.min ys.length n)=_;rfl
  unfold jna at hk;split at hk
  ·rename_i tg;split at hk
   ·rename_i ty fr its u2 xs hov;split at hk
    ·rename_i h2 _;subst h2;have ho:=hl1.ob hov;obtain⟨n0,sz0,hI,hsl⟩:=hd1;have hI' :aj (vw (s.aps δ).H) (.o tg)=some (n0,sz0):=hI;simp only[aj,az ho,Wd,Wb,Wj]at hI';obtain⟨rfl,rfl⟩:=hI';exact fin ho hsl (by omega) hk
    ·cases hk
   ·cases hk
  ·rename_i tg off n;split at hk
   ·rename_i ty fr its u2 xs hov;split at hk
    ·rename_i h2 _;subst h2;have ho:=hl1.ob hov;obtain⟨n0,sz0,hI,hle,hsl⟩:=hd1;have hI' :aj (vw (s.aps δ).H) (.o tg)=some (n0,sz0):=hI;simp only[aj,az ho,Wd,Wb,Wj]at hI';obtain⟨rfl,rfl⟩:=hI';exact fin ho hsl hle hk
    ·cases hk
   ·cases hk
  ·cases hk
 ·cases hk
theorem jge(z:Array Value)(n:Nat):(Builtin.zeroCells z n).size=n*z.size:=by simp[Builtin.zeroCells]
theorem q6s(z:Array Value)(n sz j f:Nat)(hz:z.size=sz)(hf:f<sz)(hj:j<n):(Builtin.zeroCells z n).toList[j*sz+f]? =z.toList[f]? :=by
 have h1:(j+1)*sz<=n*sz:=WC _ (by omega);rw[WM]at h1;have h2:j*sz+f<n*z.size:=by rw[hz];omega
 have h3:(j*sz+f) % z.size=f:=by rw[hz,HT,Nat.mul_add_mod,Nat.mod_eq_of_lt hf]
 have h4:f<z.size:=by omega
 rw[WY,WY];simp[Builtin.zeroCells,h2,h3,h4]
theorem jqb(hF:dq P tt){s:TS}{a:Act}{w:World}{J:Pl}(h:dr U w0 J0 K N s a w J){tg:Nat}{ty:TypeId}{fr:Bool}{its:List TypeId}{u:Ty}{xs:List u.den}(ho:s.H[tg]? =some (.arr ty (.fz fr) its u xs)){off n:Nat}{vd:Value}(hd:SlR w J (.o tg) u.sz off n vd)(hle:off+n<=xs.length)
  {t ty2 el:TypeId} {ei:TI} (hut:P.underlying t=some (.slice el)) (hel:elT tt el=some (u,ei)):
  ∃w',(Builtin.clear_ #[t] ty2 #[vd]).run P w= .ok (.tuple #[]) w' /\dr U w0 J0 K N ⟨s.S,s.H.set tg (.arr ty (.fz (fr&&true)) its u (qca xs off n (List.replicate n u.dft)))⟩ a w' J:=by
 obtain⟨hti,husz,hpos,hz,hz1,hzB⟩:=q7c hel;obtain⟨i,d,z,e1,e2,e3,e4,e5,e6,e7⟩:=(hF el ei hti).1;have hzs:z.cells.size=u.sz:=by rw[<-WO,e7,hz,husz]
 have hposu:0<u.sz:=by omega
 obtain⟨hzl,hzc⟩:=q6r _ _ hzB;rw[Ty.cells_len]at hzl;have hnl:(Builtin.zeroCells z.cells n).toList.length=n*u.sz:=by rw[WO,jge,hzs]
 have hrep:∀j,(List.replicate n u.dft).getD j u.dft=u.dft:=by
  intro j;rw[Wa,KF];split<;>rfl
 have hone:∀v∈(Builtin.zeroCells z.cells n).toList,v.oneCell' =true:=by
  intro v hv;obtain⟨j,hj⟩:=List.getElem?_of_mem hv;have hjl:=(Wh.1 hj).1;rw[hnl]at hjl;have e:=q6s z.cells n u.sz (j/u.sz) (j % u.sz) hzs (Nat.mod_lt _ hposu) ((Nat.div_lt_iff_lt_mul hposu).2 hjl);rw[Nat.div_add_mod',hj,e7]at e;simp only[zq,Kt]at hz1;exact hz1 _ (WV e.symm)
 have hzv:(zeroValue el).run P w= .ok z w:=by simp[zeroValue,typeInfo,e1,e6]
 refine jh8 (fr' :=true) (ys:=List.replicate n u.dft) h ho hd hle hposu (news:=(Builtin.zeroCells z.cells n).toList) (by rw[hnl,WT]) hone (fun j f hj hf=> ?_) (fun hm0=> ?_) (fun g o cc cur e hm0 e1 hh hfit=> ?_)
 ·rw[WT]at hj;rw[hrep];obtain⟨zu,hzu⟩:∃zu,ei.zero[f]? =some zu:=⟨_,Wi (by omega)⟩;refine⟨zu,?_,(hzc f zu hzu).1 _⟩;rw[q6s z.cells n u.sz j f hzs hf hj,e7];exact hzu
 ·rw[WT,Nat.min_self]at hm0;subst hm0;obtain⟨b,dc,rfl⟩:∃b dc,vd= .slice b 0 dc:=by
   rcases hd with⟨b,rfl,_⟩|⟨g,o,cc,cur,e,_,rfl,_⟩<;>exact⟨_,_,rfl⟩
  cases b<;>simp[Builtin.clear_,Wq hut]
 ·rw[WT,Nat.min_self]at hm0;subst e1;rw[WT,Nat.min_self,<-hnl,WW]at hfit⊢;have hst:=run_storeCells_at P g (o+off*u.sz) e (Builtin.zeroCells z.cells n).toList 0 cur w hh (by simpa using hfit) hone;obtain⟨n,rfl⟩:∃m,n=m+1:=⟨n-1,by omega⟩;simp[Builtin.clear_,Wq hut,hzv,hst]
theorem jxp(hF:dq P tt){o:Oper}{s:TS}{a:Act}{w:World}{J:Pl}(hr:dr U w0 J0 K N s a w J){Hv:List TOb}(hl:HLe F Hv s.H){k:List St->TV->Option R}{r:R}{t el:TypeId}{b1 b2:Nat}{z1:List Value}{d:Operand}{u:Ty}{ei:TI}{A:TV}
  (hop:o.op= .call ⟨.builtin .clear,⟨[d]⟩,⟨[t]⟩⟩) (ht:tt t=some ⟨.slice el,b1,b2,z1⟩) (hel:elT tt el=some (u,ei)) (hd:VR (gr U (vw s.H) w J) A (a.eval d)) (hk:q66 u A Hv k=some r):qq P U w0 J0 K N o s a w k r:=by
 have fin:∀{tg:Nat} {ty:TypeId} {fr:Bool} {its:List TypeId} {xs:List u.den} {off n:Nat},s.H[tg]? =some (.arr ty (.fz fr) its u xs)->SlR w J (.o tg) u.sz off n (a.eval d)->off+n<=xs.length->k [.set tg (.arr ty (.fz (fr&&true)) its u (qca xs off n (List.replicate n u.dft)))] .any=some r->qq P U w0 J0 K N o s a w k r:=by
  intro tg ty fr its xs off n ho hsl hle hk;obtain⟨w',hrun,hr2⟩:=jqb hF hr ho hsl hle (ty2:=o.type) (jh hF ht) hel;have hrun:(execOp a.eval o).run P w= .ok (.value (.tuple #[])) w' :=by
   unfold execOp;simp only[hop,resolve,invoke,builtin,WJ,WU,Wy,Hm,Kd,KH,hrun]
  exact qq.val (J' :=J) hk hrun hr2 trivial
 unfold q66 at hk;split at hk
 ·rename_i tg;split at hk
  ·rename_i ty fr its u2 xs hov;split at hk
   ·rename_i h2 _;obtain⟨h2⟩:=h2;subst h2;have ho:=hl.ob hov;obtain⟨n0,sz0,hI,hsl⟩:=hd;have hI' :aj (vw s.H) (.o tg)=some (n0,sz0):=hI;simp only[aj,az ho,Wd,Wb,Wj]at hI';obtain⟨rfl,rfl⟩:=hI';exact fin ho hsl (by omega) hk
   ·cases hk
  ·cases hk
 ·rename_i tg off n;split at hk
  ·rename_i ty fr its u2 xs hov;split at hk
   ·rename_i h2 _;obtain⟨h2⟩:=h2;subst h2;have ho:=hl.ob hov;obtain⟨n0,sz0,hI,hle,hsl⟩:=hd;have hI' :aj (vw s.H) (.o tg)=some (n0,sz0):=hI;simp only[aj,az ho,Wd,Wb,Wj]at hI';obtain⟨rfl,rfl⟩:=hI';exact fin ho hsl hle hk
   ·cases hk
  ·cases hk
 ·cases hk
end
end Go.K
namespace Go.K
open Go.M Go.RowKit
def jco(P:Program)(f:FuncId):Prop:=∃fn,P.funcs[f]? =some fn/\(fn.name== "runtime.NumGoroutine")=false/\fn.body.isNone=false
theorem qbi{P:Program}{f:FuncId}(h:jco P f)(args:Array Value)(w:World):(callFunc f args).run P w= .ok (.enter f args) w:=by
 obtain⟨fn,h1,h2,h3⟩:=h;simp only[callFunc,WJ,run_program,Wy,h1,h2,h3,KP,KI,WU]
mutual
def TV.fresh:TV->Bool
 | .sl fr t _=>fr
 | .rptr fr t _ _ _=>fr
 | .dm fr _ _ _=>fr
 | .fn _ cs=>TV.freshL cs
 | .agg cs=>TV.freshL cs
 | .tup cs=>TV.freshL cs
 | .cond _ a=>TV.fresh a
 | .nl _ a=>TV.fresh a
 |_=>true
def TV.freshL:List TV->Bool
 |[]=>true
 |v::l=>TV.fresh v&&TV.freshL l
end
def TOb.fresh:TOb->Bool
 | .arr _ (.fz fr) _ u _=>fr||u.flat
 | .arr _ _ _ _ _=>true
 | .cs _ _ _ l=>TV.freshL l
 | .mp _ _ _=>true
 | .mo _ _ _ _ _=>true
 | .gone=>true
def qkb:List TOb->Bool
 |[]=>true
 |o::l=>o.fresh&&qkb l
def TG.at:TG->Nat->TG
 | .o _,j=> .o j
 | .r _ i f,j=> .r j i f
theorem TG.at_ob(T:TG)(j:Nat):(T.at j).ob=j:=by cases T<;>rfl
theorem TG.at_at(T:TG)(j k:Nat):(T.at j).at k=T.at k:=by cases T<;>rfl
theorem TG.at_self(T:TG):T.at T.ob=T:=by cases T<;>rfl
theorem TG.at_inj{T T' :TG}{j:Nat}(h:T.at j=T'.at j)(ho:T.ob=T'.ob):T=T' :=by
 cases T<;>cases T' <;>simp_all[TG.at,TG.ob]
def qp5(ρ:List Nat)(J:Pl):Pl:=fun T=>if T.ob<ρ.length then J (T.at (ρ.getD T.ob 0))else none
def qhb(ρ:List Nat)(U:Nat->Prop)(J:Pl)(b:Nat):Prop:=U b\/∃T o,J T=some (b,o)/\inL T.ob ρ=false
structure MdlOK (P : Program) (f : FuncId) (M : Mdl) : Prop where
 fn : jco P f
 run : ∀ a b, M.m a = some b -> ∀ (U : Nat -> Prop) (w : World) (J : Pl), HR U w J (bt M.kp) (vw (M.objs a)) w J -> ∀ vs : List Value, gf (gr U (vw (M.objs a)) w J) (M.args a) vs ->
   Calls P f vs.toArray w fun e w' => ∃ v J', e = .returned v /\ HR U w J (bt M.kp) (vw (M.outs a b)) w' J' /\ VR (gr U (vw (M.outs a b)) w' J') (M.res a b) v
 dec : ∀ args Hv H a ρ bs, HLe (fun _ => False) Hv H -> M.dec args Hv = some (a, ρ, bs) -> q9l ρ = true -> q9d Hv.length ρ = true -> q7l ρ bs = true -> ∀ (U : Nat -> Prop) (w0 : World) (J0 : Pl) (K : Nat -> Bool) (w : World) (J : Pl), HR U w0 J0 K (vw H) w J ->
   HR (qhb ρ U J) w (qp5 ρ J) (bt M.kp) (vw (M.objs a)) w (qp5 ρ J) /\ ∀ vs : List Value, gf (gr U (vw H) w J) args vs -> gf (gr (qhb ρ U J) (vw (M.objs a)) w (qp5 ρ J)) (M.args a) vs
 fresh : ∀ a b, M.m a = some b -> TV.fresh (M.res a b) = true /\ qkb (M.outs a b) = true
 cs : ∀ (R : Type) (b : M.B) (k : M.B -> Option R) (r : R), M.cs b k = some r -> k b = some r
theorem q37{t:Nat}:∀{ρ:List Nat},inL t ρ=true↔t∈ρ
 |[]=>by simp[inL]
 |a::l=>by
  simp only[inL,Kj,Wr,q37 (ρ:=l)];constructor
  ·rintro(h|h)
   ·exact .inl (ax h).symm
   ·exact .inr h
  ·rintro(rfl|h)
   ·exact .inl (W5 _)
   ·exact .inr h
theorem q38{t:Nat}{ρ:List Nat}:inL t ρ=false↔t∉ρ:=by
 rw[<-q37 (ρ:=ρ)];cases inL t ρ<;>simp
theorem q9m:∀{ρ:List Nat},q9l ρ=true->ρ.Nodup
 |[],_=>List.nodup_nil
 |a::l,h=>by
  simp only[q9l,Wc,WE]at h;exact HM.2 ⟨q38.1 h.1,q9m h.2⟩
theorem jmp{n:Nat}:∀{ρ:List Nat},q9d n ρ=true->∀t∈ρ,t<n
 |[],_,t,h=>by simp at h
 |a::l,h,t,ht=>by
  simp only[q9d,Wc]at h;rcases Wr.1 ht with rfl|ht
  ·exact cm h.1
  ·exact jmp h.2 t ht
theorem qgk{ρ:List Nat}{n j:Nat}(h:j<ρ.length):upN ρ n j=ρ.getD j 0:=by
 unfold upN;rw[show Nat.blt j ρ.length=true by simpa[HW]using h];rfl
theorem qln{ρ:List Nat}{n j:Nat}(h:ρ.length<=j):upN ρ n j=n+(j-ρ.length):=by
 unfold upN;rw[show Nat.blt j ρ.length=false by
  cases hb:Nat.blt j ρ.length with
  |false=>rfl
  |true=>have:=cm hb;omega]
 rfl
theorem ay{ρ:List Nat}{j:Nat}(h:j<ρ.length):ρ.getD j 0∈ρ:=by
 rw[Wa,Wi h];exact Hb h
theorem j34{ρ:List Nat}{n:Nat}(hd:ρ.Nodup)(hlt:∀t∈ρ,t<n){j k:Nat}(h:upN ρ n j=upN ρ n k):j=k:=by
 rcases Wz j ρ.length with h1|h1<;>rcases Wz k ρ.length with h2|h2
 ·rw[qgk h1,qgk h2]at h;simp only[Wa,Wi h1,Wi h2,WX]at h;refine(List.getElem?_inj h1 hd).1 ?_;rw[Wi h1,Wi h2,h]
 ·rw[qgk h1,qln h2]at h;have:=hlt _ (ay h1);omega
 ·rw[qln h1,qgk h2]at h;have:=hlt _ (ay h2);omega
 ·rw[qln h1,qln h2]at h;omega
open Classical in
noncomputable def dn(ρ:List Nat)(n L t:Nat):Option Nat:=if h:∃j,j<L/\upN ρ n j=t then some h.choose else none
theorem qjb{ρ:List Nat}{n L t j:Nat}(h:dn ρ n L t=some j):j<L/\upN ρ n j=t:=by
 unfold dn at h;split at h
 ·rename_i hx;cases h;exact hx.choose_spec
 ·cases h
theorem q3q{ρ:List Nat}{n L t:Nat}(h:dn ρ n L t=none){j:Nat}(hj:j<L):upN ρ n j≠t:=by
 unfold dn at h;split at h
 ·cases h
 ·rename_i hx;exact fun e=>hx ⟨j,hj,e⟩
theorem zbm{ρ:List Nat}{n L:Nat}(hd:ρ.Nodup)(hlt:∀t∈ρ,t<n){j:Nat}(hj:j<L):dn ρ n L (upN ρ n j)=some j:=by
 cases h:dn ρ n L (upN ρ n j)with
 |none=>exact absurd rfl (q3q h hj)
 |some k=>rw[j34 hd hlt (qjb h).2]
theorem qrj:∀(ρ:List Nat) (l:List TOb) (H:List TOb),ρ.Nodup->(∀t∈ρ,t<H.length)->∀t,(jt H (qxe ρ l))[t]? =if t∈ρ/\ρ.idxOf t<l.length then l[ρ.idxOf t]? else H[t]?
 |[],l,H,_,_,t=>by cases l<;>simp[qxe,jt]
 |a::ρ,[],H,_,_,t=>by simp[qxe,jt]
 |a::ρ,o::l,H,hd,hlt,t=>by
  obtain⟨hn,hd⟩:=HM.1 hd;simp only[qxe,jt,hAp];rw[qrj ρ l (H.set a o) hd (fun t ht=>by rw[WB];exact hlt t (We _ ht)) t];by_cases e:t=a
  ·subst e;rw[if_neg (fun h=>hn h.1),Wl (hlt t Wf)];simp
  ·rw[WF (Ko e)];have hidx:(a::ρ).idxOf t=ρ.idxOf t+1:=by
    rw[List.idxOf_cons];have:(a==t)=false:=by simpa using Ko e
    rw[this];rfl
   simp only[Wr,e,false_or,hidx,WA,Nat.add_lt_add_iff_right,HA]
theorem qnn:∀(ρ:List Nat) (l:List TOb) (H:List TOb),(jt H (qxe ρ l)).length=H.length
 |[],l,H=>by cases l<;>rfl
 |a::ρ,[],H=>rfl
 |a::ρ,o::l,H=>by simp only[qxe,jt,hAp];rw[qnn ρ l];simp
theorem jyh(H:List TOb)(n:Nat)(ob:TOb)(hn:n<=H.length):n+1<=(fq H n ob).length/\H.length<=(fq H n ob).length:=by
 unfold fq;cases hb:Nat.blt n H.length with
 |true=>have:=cm hb;simp;omega
 |false=>simp;omega
theorem qri:∀(l:List TOb) (n:Nat) (H:List TOb),n<=H.length->∀t,(jt H (q4r n l))[t]? =if n<=t/\t-n<l.length then l[t-n]? else H[t]?
 |[],n,H,hn,t=>by simp[q4r,jt]
 |o::l,n,H,hn,t=>by
  simp only[q4r,jt,hAp];rw[qri l (n+1) _ (jyh H n o hn).1 t,ko H n o hn];by_cases e:t=n
  ·subst e;rw[if_neg (by omega),if_pos rfl,if_pos (by simp)];simp
  ·rw[if_neg e];by_cases h:n+1<=t
   ·have:t-n=(t-(n+1))+1:=by omega
    simp only[this,WA,Nat.add_lt_add_iff_right,HA,h,true_and,show n<=t by omega]
   ·rw[if_neg (by omega),if_neg (by omega)]
theorem j1q(S:List (Nat×TV))(H:List TOb)(n:Nat)(ρ:List Nat)(kp:List Bool)(outs:List TOb):((TS.mk S H).aps (qg0 n ρ kp outs)).S=sbS (qb7 ρ kp) S:=by
 have h1:∀(ρ:List Nat) (l:List TOb) (s:TS) (δ:List St),(s.aps (qxe ρ l++δ)).S=((TS.mk s.S (jt s.H (qxe ρ l))).aps δ).S:=by
  intro ρ
  induction ρ with
  |nil=>intro l s δ;cases l<;>rfl
  |cons a ρ ih=>intro l s δ;cases l with
   |nil=>rfl
   |cons o l=>exact ih l _ δ
 have h2:∀(l:List TOb) (n:Nat) (s:TS),(s.aps (q4r n l)).S=s.S:=by
  intro l
  induction l with
  |nil=>intro n s;rfl
  |cons o l ih=>intro n s;exact ih (n+1) _
 unfold qg0;show(((TS.mk S H).ap _).aps _).S=_;rw[h1,h2];rfl
end Go.K
namespace Go.K
open Go.M Go.RowKit
mutual
theorem VR.wide{G:Gr}{X' :Nat->Prop}(h:∀b,X' b->G.X b\/G.U b):∀(A:TV) (v:Value),A.fresh=true->VR G A v->VR ⟨G.w,X',G.U,G.J,G.I⟩ A v
 | .any,v,_,hv=>trivial
 | .int _ _,v,_,hv=>hv
 | .bool _,v,_,hv=>hv
 | .val _,v,_,hv=>hv
 | .e0,v,_,hv=>hv
 | .sl fr t xs,v,hf,hv=>by
  simp only[TV.fresh]at hf;subst hf;exact Ty.C_low (w:=G.w) (w' :=G.w) ⟨Wg _,fun b _ hb hb' =>hb (by rcases hb' with e|e;exact(h b e).elim .inl fun u=> .inr ⟨rfl,u⟩;exact .inr e),fun b _ _=>rfl⟩ (.slice t) xs 0 v hv
 | .rptr fr t xs i f,v,hf,hv=>by
  simp only[TV.fresh]at hf;subst hf;obtain⟨b,o,hv,hr⟩:=hv;exact⟨b,o,hv,hr.low (w:=G.w) (w' :=G.w) ⟨Wg _,fun b _ hb hb' =>hb (by rcases hb' with e|e;exact(h b e).elim .inl fun u=> .inr ⟨rfl,u⟩;exact .inr e),fun b _ _=>rfl⟩⟩
 | .own T,v,_,hv=>hv
 | .ownS T off m,v,_,hv=>hv
 | .ptr T i f,v,_,hv=>hv
 | .mp T,v,_,hv=>hv
 | .dm fr kt vt es,v,hf,hv=>by
  simp only[TV.fresh]at hf;subst hf;exact q04.low (w:=G.w) (w' :=G.w) ⟨Wg _,fun b _ hb hb' =>hb (by rcases hb' with e|e;exact(h b e).elim .inl fun u=> .inr ⟨rfl,u⟩;exact .inr e),fun b _ _=>rfl⟩ hv
 | .fn f cs,v,hf,hv=>by
  obtain⟨l,hl,hc⟩:=hv;exact⟨l,hl,gf.wide h cs l hf hc⟩
 | .agg cs,v,hf,hv=>by
  obtain⟨l,hl,hc,h1⟩:=hv;exact⟨l,hl,gf.wide h cs l hf hc,h1⟩
 | .tup cs,v,hf,hv=>by
  obtain⟨l,hl,hc⟩:=hv;exact⟨l,hl,gf.wide h cs l hf hc⟩
 | .cond c a,v,hf,hv=>by
  unfold VR at hv⊢;split
  ·rename_i hc;rw[if_pos hc]at hv;exact VR.wide h a v hf hv
  ·rename_i hc;rw[if_neg hc]at hv;exact hv
 | .nl _ a,v,hf,hv=>⟨VR.wide h a v hf hv.1,hv.2⟩
theorem gf.wide{G:Gr}{X' :Nat->Prop}(h:∀b,X' b->G.X b\/G.U b):∀(cs:List TV) (l:List Value),TV.freshL cs=true->gf G cs l->gf ⟨G.w,X',G.U,G.J,G.I⟩ cs l
 |[],l,_,hl=>hl
 |A::cs,l,hf,hl=>by
  obtain⟨u,r,rfl,h1,h2⟩:=hl;simp only[TV.freshL,Wc]at hf;exact⟨u,r,rfl,VR.wide h A u hf.1 h1,gf.wide h cs r hf.2 h2⟩
end
mutual
theorem Ty.flat_cells(fr:Bool):∀(t:Ty) (x:t.den),t.flat=true->∀A∈t.cells fr x,A.fresh=true
 | .int _,_,_,A,h=>by simp only[Ty.cells,Wm]at h;subst h;rfl
 | .bool,_,_,A,h=>by simp only[Ty.cells,Wm]at h;subst h;rfl
 | .str,_,_,A,h=>by simp only[Ty.cells,Wm]at h;subst h;rfl
 | .slice _,_,hf,A,h=>by simp[Ty.flat]at hf
 | .struct l,x,hf,A,h=>TyL.flat_cells fr l x hf A h
 | .tree _ _,_,hf,A,h=>by simp[Ty.flat]at hf
theorem TyL.flat_cells(fr:Bool):∀(l:TyL) (x:l.den),l.flat=true->∀A∈l.cells fr x,A.fresh=true
 | .nil,_,_,A,h=>by simp[TyL.cells]at h
 | .cons t l,x,hf,A,h=>by
  simp only[TyL.flat,Wc]at hf;simp only[TyL.cells,WS]at h;rcases h with h|h
  ·exact Ty.flat_cells fr t _ hf.1 A h
  ·exact TyL.flat_cells fr l _ hf.2 A h
end
theorem q1j{l:List TV}(h:∀A∈l,A.fresh=true)(f:Nat):(l.getD f .any).fresh=true:=by
 rw[Wa];cases hq:l[f]? with
 |none=>rfl
 |some A=>exact h A (WV hq)
theorem q1h{A:TV}(h:qbc true A):A.fresh=true:=by
 cases A<;>simp_all[qbc,TV.fresh]
theorem jdk:∀{l:List TV},TV.freshL l=true->∀A∈l,A.fresh=true
 |[],_,A,h=>by simp at h
 |B::l,hf,A,h=>by
  simp only[TV.freshL,Wc]at hf;rcases Wr.1 h with rfl|h
  ·exact hf.1
  ·exact jdk hf.2 A h
theorem jic:∀{H:List TOb},qkb H=true->∀(t:Nat) ob,H[t]? =some ob->ob.fresh=true
 |[],_,t,ob,h=>by simp at h
 |o::l,hf,t,ob,h=>by
  simp only[qkb,Wc]at hf;cases t with
  |zero=>simp at h;subst h;exact hf.1
  |succ t=>exact jic hf.2 t ob (by simpa using h)
theorem qb9{fr:Bool}{u:Ty}(h:(fr||u.flat)=true)(x:u.den)(f:Nat):((u.cells fr x).getD f .any).fresh=true:=by
 cases fr with
 |true=>exact q1j (fun A hA=>q1h (Ty.cells_form true u x A hA)) f
 |false=>exact q1j (Ty.flat_cells false u x (by simpa using h)) f
theorem jpn{H:List TOb}(hf:qkb H=true){T:TG}{v:Vw}(hv:vw H T=some v)(i f:Nat):(v.cs i f).fresh=true:=by
 cases T with
 |o t=>
  simp only[vw]at hv;cases hq:H[t]? with
  |none=>rw[hq]at hv;cases hv
  |some ob=>
   rw[hq]at hv;have ho:=jic hf t ob hq;cases ob with
   |gone=>cases hv
   |mp kt vt es=>cases hv;simp only[qzc];split<;>first|rfl|(split<;>rfl)
   |mo kt u ety es h=>cases hv;simp only[moC];split<;>first|rfl|(split<;>first|rfl|(split<;>rfl))
   |cs ty sz n l=>
    cases hv;exact q1j (jdk ho) _
   |arr ty md its u xs=>
    cases hv;simp only[];have hm:((u.cells md.fr (xs.getD i u.dft)).getD f .any).fresh=true:=by
     cases md with
     |fz fr=>exact qb9 ho _ _
     |own=>exact qb9 rfl _ _
     |hole i0 f0=>exact qb9 rfl _ _
     |swap i0 j0=>exact qb9 rfl _ _
    unfold b7;split
    ·rename_i fr0 v0 ys0 e;rw[e]at hm;split
     ·exact hm
     ·rfl
     ·split<;>rfl
     ·split<;>rfl
    ·exact hm
 |r t i' f' =>
  simp only[vw]at hv;cases hq:H[t]? with
  |none=>rw[hq]at hv;cases hv
  |some ob=>
   rw[hq]at hv;cases ob with
   |gone=>cases hv
   |mp kt vt es=>cases hv
   |mo kt u ety es h=>
    simp only[vwR]at hv;split at hv
    ·cases hv;exact qb9 rfl _ _
    ·cases hv
   |cs ty sz n l=>cases hv
   |arr ty md its u xs=>
    simp only[vwR]at hv;split at hv
    ·split at hv
     ·cases hv;exact qb9 rfl _ _
     ·cases hv
    ·cases hv
section
variable {s : TS} {n : Nat} {ρ : List Nat} {kp : List Bool} {outs : List TOb}
theorem jsf:(s.aps (qg0 n ρ kp outs)).H=jt (jt (cx (qb7 ρ kp) s.H) (qxe ρ (cx (upA ρ n) (outs.take ρ.length)))) (q4r n (cx (upA ρ n) (outs.drop ρ.length))):=by
 rw[qol];unfold qg0;show jt (hAp s.H _) _=_;rw[ut];rfl
theorem jxl(hd:ρ.Nodup)(hlt:∀t∈ρ,t<n)(hn:n<=s.H.length)(hL:ρ.length<=outs.length){j:Nat}(hj:j<outs.length):(s.aps (qg0 n ρ kp outs)).H[upN ρ n j]? =(outs[j]?).map (TOb.sb (upA ρ n)):=by
 rw[jsf,qri _ _ _ (by rw[qnn,c7];exact hn)];rcases Wz j ρ.length with h|h
 ·have hm:=ay h;have hidx:ρ.idxOf (ρ.getD j 0)=j:=by
   rw[Wa,Wi h,WX];exact List.Nodup.idxOf_getElem hd j h
  rw[qgk h,if_neg (by have:=hlt _ hm;omega),qrj _ _ _ hd (fun t ht=>by rw[c7];have:=hlt t ht;omega),if_pos ⟨hm,by rw[hidx,c7,Kg];omega⟩,hidx,ij,WZ,if_pos h]
 ·rw[qln h,if_pos ⟨by omega,by rw[c7,Hk];omega⟩,ij,WI];congr 2;omega
theorem jp9(hd:ρ.Nodup)(hlt:∀t∈ρ,t<n)(hn:n<=s.H.length)(hL:ρ.length<=outs.length){t:Nat}(ht:dn ρ n outs.length t=none):(s.aps (qg0 n ρ kp outs)).H[t]? =(cx (qb7 ρ kp) s.H)[t]? :=by
 rw[jsf,qri _ _ _ (by rw[qnn,c7];exact hn),if_neg,qrj _ _ _ hd (fun t ht=>by rw[c7];have:=hlt t ht;omega),if_neg]
 ·rintro⟨hm,hi⟩;have h:=HH hm;refine q3q ht (j:=ρ.idxOf t) (by omega) ?_;rw[qgk h,Wa,Wi h,WX];exact List.getElem_idxOf h
 ·rintro⟨h1,h2⟩;rw[c7,Hk]at h2;refine q3q ht (j:=t-n+ρ.length) (by omega) ?_;rw[qln (by omega)];omega
theorem jy6{j:Nat}(md:Md)(u:Ty)(xs:List u.den)(i f:Nat):b7 (upN ρ n j) md u xs i f=(b7 j md u xs i f).sb (upA ρ n):=by
 unfold b7;split
 ·cases md with
  |fz fr=>rfl
  |own=>rfl
  |hole i0 f0=>simp only[];split<;>rfl
  |swap i0 j0=>simp only[];split<;>rfl
 ·rw[Ty.cells_sb]
theorem zab{j:Nat}(kt:Ty){β:Type}(es:List (kt.den×β))(h:Option Nat)(i f:Nat):moC (upN ρ n j) kt es h i f=(moC j kt es h i f).sb (upA ρ n):=by
 unfold moC;split
 ·split
  ·rfl
  ·split<;>rfl
  ·rfl
 ·rfl
theorem zaw{j:Nat}(o:TOb):vwO (upN ρ n j) (o.sb (upA ρ n))=(vwO j o).map (Vw.sb (upA ρ n)):=by
 cases o with
 |arr ty md its u xs=>
  simp only[TOb.sb,vwO,Wd,Vw.sb];congr 2;funext i f;exact jy6 md u xs i f
 |cs ty sz m l=>
  simp only[TOb.sb,vwO,Wd,Vw.sb];congr 2;funext i f;exact TV.sbL_at _ l _
 |mp kt vt es=>
  simp only[TOb.sb,vwO,Wd,Vw.sb];congr 2;funext i f;exact(js3 _ kt vt es i f).symm
 |mo kt u ety es h=>
  simp only[TOb.sb,vwO,Wd,Vw.sb];congr 2;funext i f;exact zab kt es h i f
 |gone=>rfl
theorem zax{i f:Nat}(o:TOb):vwR i f (o.sb (upA ρ n))=(vwR i f o).map (Vw.sb (upA ρ n)):=by
 cases o with
 |arr ty md its u xs=>
  simp only[TOb.sb,vwR];split
  ·split
   ·simp only[Wd,Vw.sb];congr 2;funext j g;exact(Ty.cells_sb _ true _ _ g).symm
   ·rfl
  ·rfl
 |cs ty sz m l=>rfl
 |mp kt vt es=>rfl
 |mo kt u ety es h=>
  simp only[TOb.sb,vwR];split
  ·simp only[Wd,Vw.sb];congr 2;funext j g;exact(Ty.cells_sb _ true _ _ g).symm
  ·rfl
 |gone=>rfl
theorem zef(hd:ρ.Nodup)(hlt:∀t∈ρ,t<n)(hn:n<=s.H.length)(hL:ρ.length<=outs.length)(T:TG)(hT:T.ob<outs.length):vw (s.aps (qg0 n ρ kp outs)).H (T.at (upN ρ n T.ob))=(vw outs T).map (Vw.sb (upA ρ n)):=by
 have h:=jxl (s:=s) (kp:=kp) hd hlt hn hL hT;cases T with
 |o j=>
  simp only[TG.ob,TG.at]at h⊢;simp only[vw,h];cases hq:outs[j]? with
  |none=>rfl
  |some o=>exact zaw o
 |r j i f=>
  simp only[TG.ob,TG.at]at h⊢;simp only[vw,h];cases hq:outs[j]? with
  |none=>rfl
  |some o=>exact zax o
theorem j1p{t i f:Nat}(h:inL t ρ=false):qb7 ρ kp (.r t i f)= .id:=by simp[qb7,h]
theorem j36(hd:ρ.Nodup)(hlt:∀t∈ρ,t<n)(hn:n<=s.H.length)(hL:ρ.length<=outs.length){T:TG}(ht:dn ρ n outs.length T.ob=none):vw (s.aps (qg0 n ρ kp outs)).H T=(vw s.H T).map (Vw.sb (qb7 ρ kp)):=by
 rw[<-qya (θ:=qb7 ρ kp) (H:=s.H)]
 ·exact zee (jp9 hd hlt hn hL ht)
 ·intro i f;refine j1p (q38.2 fun hm=> ?_);have h:=HH hm;refine q3q ht (j:=ρ.idxOf T.ob) (by omega) ?_;rw[qgk h,Wa,Wi h,WX];exact List.getElem_idxOf h
end
theorem jdu:∀{ρ:List Nat} {kp:List Bool} {l H:List TOb},gb (jgn ρ kp l H)->ρ.length<=l.length
 |[],_,_,_,_=>W7 _
 |t::ρ,kp,[],H,h=>by have:=h false (by simp[jgn]);cases this
 |t::ρ,[],o::l,H,h=>by have:=h false (by simp[jgn]);cases this
 |t::ρ,true::kp,o::l,H,h=>by
  have:=jdu (gb.app h).2;simp;omega
 |t::ρ,false::kp,o::l,H,h=>by
  have:=jdu (ρ:=ρ) (kp:=kp) (l:=l) (H:=H) h;simp;omega
theorem jkz:∀{ρ:List Nat} {kp:List Bool} {l H:List TOb},gb (jgn ρ kp l H)->∀{j:Nat},j<ρ.length->bt kp j=true->∃o,l[j]? =some o/\gb (j11 o (H.getD (ρ.getD j 0) .gone))
 |[],_,_,_,_,j,hj,_=>by simp at hj
 |t::ρ,kp,[],H,h,j,_,_=>by have:=h false (by simp[jgn]);cases this
 |t::ρ,[],o::l,H,h,j,_,_=>by have:=h false (by simp[jgn]);cases this
 |t::ρ,true::kp,o::l,H,h,j,hj,hk=>by
  obtain⟨h1,h2⟩:=gb.app h;cases j with
  |zero=>exact⟨o,rfl,h1⟩
  |succ j=>
   obtain⟨o',e1,e2⟩:=jkz h2 (j:=j) (by simpa using hj) (by simpa[bt]using hk);exact⟨o',by simpa using e1,by simpa using e2⟩
 |t::ρ,false::kp,o::l,H,h,j,hj,hk=>by
  cases j with
  |zero=>simp[bt]at hk
  |succ j=>
   obtain⟨o',e1,e2⟩:=jkz (ρ:=ρ) (kp:=kp) (l:=l) (H:=H) h (j:=j) (by simpa using hj) (by simpa[bt]using hk);exact⟨o',by simpa using e1,by simpa using e2⟩
theorem ju2{o o' :TOb}(h:gb (j11 o o')){t t' :Nat}:(vwO t o).map (fun v=>(v.n,v.sz))=(vwO t' o').map (fun v=>(v.n,v.sz))/\o' ≠ .gone:=by
 unfold j11 at h;split at h
 ·have h1:=ax (h _ Wf);have h2:decide (_=_)=true:=h _ (We _ Wf);simp only[WH]at h2;exact⟨by simp[vwO,h1,h2],by simp⟩
 ·have h1:=ax (h _ Wf);have h2:=ax (h _ (We _ Wf));exact⟨by simp[vwO,h1,h2],by simp⟩
 ·exact⟨by simp[vwO],by simp⟩
 ·exact⟨by simp[vwO],by simp⟩
 ·have:=h false Wf;cases this
theorem jin:∀{ρ:List Nat} {kp:List Bool} {j:Nat},kp.length=ρ.length->j<ρ.length->q1r ρ kp (ρ.getD j 0)=false->bt kp j=true
 |[],_,j,_,hj,_=>by simp at hj
 |a::ρ,[],j,hl,_,_=>by simp at hl
 |a::ρ,k::kp,j,hl,hj,h=>by
  simp only[q1r,KS]at h;cases j with
  |zero=>
   have h1:=h.1;simp only[K9,W5,Hq,Bool.not_eq_false']at h1;simpa[bt]using h1
  |succ j=>
   simpa[bt]using jin (ρ:=ρ) (kp:=kp) (j:=j) (by simpa using hl) (by simpa using hj) (by simpa using h.2)
theorem q7k:∀{kp0:List Bool} {ρ:List Nat} {kp:List Bool},jdr kp0 ρ kp=true->kp.length=ρ.length->∀{j:Nat},j<ρ.length->bt kp0 (ρ.getD j 0)=true->bt kp j=true
 |kp0,[],_,_,_,j,hj,_=>by simp at hj
 |kp0,a::ρ,[],_,hl,j,_,_=>by simp at hl
 |kp0,a::ρ,k::kp,h,hl,j,hj,hk=>by
  simp only[jdr,Wc,Kj,WE]at h;cases j with
  |zero=>
   simp only[K9]at hk;rcases h.1 with e|e
   ·simpa[bt]using e
   ·rw[e]at hk;cases hk
  |succ j=>simpa[bt]using q7k h.2 (by simpa using hl) (j:=j) (by simpa using hj) (by simpa using hk)
end Go.K
namespace Go.K
open Go.M Go.RowKit
variable {F : Nat -> Prop}
section
variable {U : Nat -> Prop} {w0 : World} {J0 : Pl} {K : Nat -> Bool} {N : Nat} {P : Program} {tt : TT} {R Rf : Type}
noncomputable def jp6(ρ:List Nat)(n L:Nat)(J Jc:Pl):Pl:=fun T=>match dn ρ n L T.ob with|some j=>Jc (T.at j)|none=>J T
theorem j7c{s:TS}{a:Act}{w w' :World}{J:Pl}(hr:dr U w0 J0 K N s a w J){Hv:List TOb}(hl:HLe F Hv s.H){kp0:List Bool}(hK:∀t,bt kp0 t=false->K t=false)(hn:∀t,Hv.length<=t->K t=false){ρ:List Nat}{kp:List Bool}{outs:List TOb}{res:TV}
  (hdis:q9l ρ=true) (hall:q9d Hv.length ρ=true) (hkeep:jdr kp0 ρ kp=true) (hkl:kp.length=ρ.length) (hlens:gb (jgn ρ kp outs Hv)) (hfr:qkb outs=true) (hfv:res.fresh=true) (hfree:∀j,ρ.length<=j->j<outs.length->F (upN ρ Hv.length j)) {Jc:Pl} {v:Value}
  (hc:HR (qhb ρ U J) w (qp5 ρ J) (bt kp) (vw outs) w' Jc) (hv:VR (gr (qhb ρ U J) (vw outs) w' Jc) res v):
  ∃J',dr U w0 J0 K N (s.aps (qg0 Hv.length ρ kp outs)) a w' J' /\VR (gr U (vw (s.aps (qg0 Hv.length ρ kp outs)).H) w' J') (res.sb (upA ρ Hv.length)) v:=by
 have hd:=q9m hdis;have hlt:=jmp hall;have hL:=jdu hlens;have hle:=hl.len;have h:=hr.hr;generalize hn0:Hv.length=n at*;have hpull:∀T p,qp5 ρ J T=some p->T.ob<ρ.length/\J (T.at (ρ.getD T.ob 0))=some p:=by
  intro T p hp;unfold qp5 at hp;split at hp
  ·rename_i e;exact⟨e,hp⟩
  ·cases hp
 have hin:∀t,dn ρ n outs.length t=none->inL t ρ=false:=by
  intro t ht;refine q38.2 fun hm=> ?_
  have h:=HH hm;refine q3q ht (j:=ρ.idxOf t) (by omega) ?_;rw[qgk h,Wa,Wi h,WX];exact List.getElem_idxOf h
 have hstay:∀T g o,dn ρ n outs.length T.ob=none->J T=some (g,o)->qhb ρ U J g/\w'.heap[g]? =w.heap[g]? :=by
  intro T g o hT hJ;refine⟨.inr ⟨T,o,hJ,hin _ hT⟩,hc.blk g (h.lt hJ) fun T' o' h' => ?_⟩;obtain⟨h1,h2⟩:=hpull T' _ h';have:=h.inj _ _ _ _ _ hJ h2;have e:T.ob=ρ.getD T'.ob 0:=by rw[this,TG.at_ob]
  have:=hin _ hT;rw[e]at this;exact q38.1 this (ay h1)
 have hvn:∀T j,n<=T.ob->dn ρ n outs.length T.ob=some j->vw s.H T=none:=by
  intro T j hT hdn;obtain⟨hjL,hup⟩:=qjb hdn;have hj:ρ.length<=j:=by
   rcases Wz j ρ.length with h1|h1
   ·rw[qgk h1]at hup;have:=hlt _ (ay h1);omega
   ·exact h1
  have hf:=hfree j hj hjL;rw[hup]at hf;cases T with
  |o t=>rcases hl.free t (by rw[hn0];exact hT) hf with e|e<;>simp[vw,e,vwO]
  |r t i f=>rcases hl.free t (by rw[hn0];exact hT) hf with e|e<;>simp[vw,e,vwR]
 let J' :Pl:=jp6 ρ n outs.length J Jc;have hJe:∀T,dn ρ n outs.length T.ob=none->J' T=J T:=fun T hT=>by simp only[J',jp6,hT]
 have hJs:∀T j,dn ρ n outs.length T.ob=some j->J' T=Jc (T.at j):=fun T j hT=>by simp only[J',jp6,hT]
 have hJu:∀T,T.ob<outs.length->J' (T.at (upN ρ n T.ob))=Jc T:=fun T hT=>by
  rw[hJs _ T.ob (by rw[TG.at_ob];exact zbm hd hlt hT),TG.at_at,TG.at_self]
 have hVu:=fun T hT=>zef (s:=s) (n:=n) (kp:=kp) (outs:=outs) hd hlt hle hL T hT
 have hVe:=fun T hT=>j36 (s:=s) (n:=n) (kp:=kp) (outs:=outs) hd hlt hle hL (T:=T) hT
 generalize hH' :(s.aps (qg0 n ρ kp outs)).H=H' at hVu hVe;have hcase:∀T g o,J' T=some (g,o)->(∃j,dn ρ n outs.length T.ob=some j/\Jc (T.at j)=some (g,o))\/(dn ρ n outs.length T.ob=none/\J T=some (g,o)):=by
  intro T g o hT;cases hq:dn ρ n outs.length T.ob with
  |some j=>rw[hJs T j hq]at hT;exact .inl ⟨j,rfl,hT⟩
  |none=>rw[hJe T hq]at hT;exact .inr ⟨rfl,hT⟩
 have hcown:∀b,da (qp5 ρ J) b->da J b:=by
  rintro b ⟨T,o,hT⟩;obtain⟨_,h2⟩:=hpull T _ hT;exact⟨_,o,h2⟩
 have hkept:∀j,j<ρ.length->bt kp j=true->aj (vw H') (.o (ρ.getD j 0))=aj (vw s.H) (.o (ρ.getD j 0))/\J' (.o (ρ.getD j 0))=J (.o (ρ.getD j 0))/\qp5 ρ J (.o j)=J (.o (ρ.getD j 0)):=by
  intro j hj hk;have hjL:j<outs.length:=by omega
  have e0:upN ρ n j=ρ.getD j 0:=qgk hj;have e1:qp5 ρ J (.o j)=J (.o (ρ.getD j 0)):=if_pos (c:=(TG.o j).ob<ρ.length) hj;have e2:J' (.o (ρ.getD j 0))=Jc (.o j):=by
   have:=hJu (.o j) hjL;simpa only[TG.ob,TG.at,e0]using this
  refine⟨?_,by rw[e2,hc.keep j hk,e1],e1⟩;have h1:=hVu (.o j) hjL;simp only[TG.ob,TG.at,e0]at h1;obtain⟨o,ho,hdim⟩:=jkz hlens hj hk;obtain⟨hi,hng⟩:=ju2 hdim (t:=j) (t' :=ρ.getD j 0);have hov:Hv[ρ.getD j 0]? =some (Hv.getD (ρ.getD j 0) .gone):=by
   have hx:ρ.getD j 0<Hv.length:=by rw[hn0];exact hlt _ (ay hj)
   generalize ρ.getD j 0=x at hx;rw[Wa,Wi hx];rfl
  have hos:s.H[ρ.getD j 0]? =some (Hv.getD (ρ.getD j 0) .gone):=by
   rcases hl.at_ _ _ hov with e|e
   ·exact absurd e hng
   ·exact e
  simp only[aj,h1,Option.map_map];simp only[vw,ho,hos];rw[<-hi];cases vwO j o<;>rfl
 have hmv:Mv (qb7 ρ kp) (gr U (vw s.H) w J) (gr U (vw H') w' J'):=by
  refine⟨hc.size,fun b hb hx hx' => ?_,fun b _ _ hu=>hu,fun b hb hx=>hc.blk b hb fun T o e=>hx (hcown b ⟨T,o,e⟩),fun T T' q ht hq=> ?_,fun T fr u xs q e=> ?_⟩
  ·obtain⟨T,o,hT⟩:=hx';rcases hcase T b o hT with⟨j,_,e⟩|⟨_,e⟩
   ·rcases(hc.own _ _ _ e).2 with hge|⟨T',o',e'⟩
    ·have hb' :b<w.heap.size:=hb;omega
    ·exact hx (hcown b ⟨T',o',e'⟩)
   ·exact hx ⟨T,o,e⟩
  ·have hnt:∀T,qb7 ρ kp T≠ .to T' :=by
    intro T;cases T with
    |o t=>simp only[qb7];cases q1r ρ kp t<;>simp
    |r t i f=>simp only[qb7];cases inL t ρ<;>simp
   obtain⟨ht,rfl⟩:=ht.resolve_right (hnt T);have hq' :aj (vw s.H) T' =some q:=hq;cases hdn:dn ρ n outs.length T'.ob with
   |none=>
    refine⟨by show aj (vw H') T' =some q;rw[qda (hVe T' hdn)];exact hq',fun g o hg=>⟨by show J' T' =_;rw[hJe T' hdn];exact hg,fun cur e hh=>⟨cur,?_,rfl⟩⟩⟩;show w'.heap[g]? =_;rw[(hstay T' g o hdn hg).2];exact hh
   |some j=>
    obtain⟨hjL,hup⟩:=qjb hdn;have hTn:T'.ob<n:=by
     rcases Wz T'.ob n with h1|h1
     ·exact h1
     ·rw[aj,hvn T' j h1 hdn]at hq';cases hq'
    have hj:j<ρ.length:=by
     rcases Wz j ρ.length with h1|h1
     ·exact h1
     ·rw[qln h1]at hup;omega
    rw[qgk hj]at hup;cases T' with
    |r t i f=>
     simp only[TG.ob]at hup;rw[<-hup]at ht;simp only[qb7,q37.2 (ay hj),WQ]at ht;cases ht
    |o t=>
     simp only[TG.ob]at hup;subst hup;have hk:bt kp j=true:=by
      refine jin hkl hj ?_;simp only[qb7]at ht;cases hm:q1r ρ kp (ρ.getD j 0)with
      |false=>rfl
      |true=>rw[hm]at ht;cases ht
     obtain⟨k1,k2,k3⟩:=hkept j hj hk;refine⟨by show aj (vw H') _=_;rw[k1];exact hq',fun g o hg=>⟨by show J' _=_;rw[k2];exact hg,fun cur e hh=> ?_⟩⟩;exact hc.ksz j g o hk (by rw[k3];exact hg) cur e hh
  ·cases T with
   |o t=>simp only[qb7]at e;cases hm:q1r ρ kp t<;>rw[hm]at e<;>cases e
   |r t i f=>simp only[qb7]at e;cases hm:inL t ρ<;>rw[hm]at e<;>cases e
 have hup:Mv (upA ρ n) ⟨w',fun b=>da Jc b\/qhb ρ U J b,qhb ρ U J,Jc,aj (vw outs)⟩ (gr U (vw H') w' J'):=by
  refine⟨Wg _,fun b _ hx hx' => ?_,fun b _ _ hu hu' =>hu (.inl hu'),fun b _ _=>rfl,fun T T' q ht hq=> ?_,fun T fr u xs q e=> ?_⟩
  ·obtain⟨T,o,hT⟩:=hx';rcases hcase T b o hT with⟨j,_,e⟩|⟨hdn,e⟩
   ·exact hx (.inl ⟨_,o,e⟩)
   ·exact hx (.inr (hstay T b o hdn e).1)
  ·have e:T' =T.at (upN ρ n T.ob):=by
    cases T with
    |o j=>rcases ht with⟨ht,_⟩|ht<;>simp only[upA]at ht<;>cases ht<;>rfl
    |r j i f=>rcases ht with⟨ht,_⟩|ht<;>simp only[upA]at ht<;>cases ht<;>rfl
   subst e;have hq' :aj (vw outs) T=some q:=hq;have hT:T.ob<outs.length:=by
    rcases Wz T.ob outs.length with h1|h1
    ·exact h1
    ·exfalso;cases T with
     |o j=>simp only[TG.ob]at h1;simp[aj,vw,Wp h1]at hq'
     |r j i f=>simp only[TG.ob]at h1;simp[aj,vw,Wp h1]at hq'
   refine⟨?_,fun g o hg=>⟨by show J' _=_;rw[hJu T hT];exact hg,fun cur e hh=>⟨cur,hh,rfl⟩⟩⟩;show aj (vw H') _=_;simp only[aj,hVu T hT,Option.map_map];rw[<-hq'];rfl
  ·cases T with
   |o j=>simp only[upA]at e;cases e
   |r j i f=>simp only[upA]at e;cases e
 have hres:∀A u,A.fresh=true->VR (gr (qhb ρ U J) (vw outs) w' Jc) A u->VR (gr U (vw H') w' J') (A.sb (upA ρ n)) u:=by
  intro A u hf hu;exact VR.mv hup A u (VR.wide (G:=gr (qhb ρ U J) (vw outs) w' Jc) (X' :=fun b=>da Jc b\/qhb ρ U J b) (fun b hb=>hb) A u hf hu)
 refine⟨J',?_,hres res v hfv hv⟩;have hS:(s.aps (qg0 n ρ kp outs)).S=sbS (qb7 ρ kp) s.S:=j1q s.S s.H n ρ kp outs;show ARel U w0 J0 K N (bu (s.aps (qg0 n ρ kp outs)).S) (vw (s.aps (qg0 n ρ kp outs)).H) a w' J';rw[hS,hH'];refine ARel.go hr hmv (fun t=>fv _ _ _) ⟨fun T T' g o o' h1 h2=> ?_,fun T p hp=> ?_,fun T v hv=> ?_,fun T g o hT=> ?_,hc.os.trans h.os,hc.tape.trans h.tape,hc.output.trans h.output,Kb h.size hc.size,fun b hb hnb=> ?_,fun t ht=> ?_,fun t g o ht hg cur e hcur=> ?_,h.ulow,h.tb0⟩
 ·rcases hcase T g o h1 with⟨j,hj,e⟩|⟨hj,e⟩<;>rcases hcase T' g o' h2 with⟨j',hj',e'⟩|⟨hj',e'⟩
  ·have e3:=hc.inj _ _ _ _ _ e e';have ej:j=j' :=by have:=W0 TG.ob e3;simpa only[TG.at_ob]using this
   subst ej;exact TG.at_inj e3 ((qjb hj).2.symm.trans (qjb hj').2)
  ·exact absurd (hstay T' g o' hj' e').1 (hc.own _ _ _ e).1
  ·exact absurd (hstay T g o hj e).1 (hc.own _ _ _ e').1
  ·exact h.inj _ _ _ _ _ e e'
 ·obtain⟨g,o⟩:=p;rcases hcase T g o hp with⟨j,hj,e⟩|⟨hj,e⟩
  ·obtain⟨v0,hv0⟩:=hc.dom _ _ e;obtain⟨hjL,hju⟩:=qjb hj;have:=hVu (T.at j) (by rw[TG.at_ob];exact hjL);rw[TG.at_ob,TG.at_at,hju,TG.at_self,hv0]at this;exact⟨_,this⟩
  ·obtain⟨v0,hv0⟩:=h.dom _ _ e;have:=hVe T hj;rw[hv0]at this;exact⟨_,this⟩
 ·cases hj:dn ρ n outs.length T.ob with
  |some j=>
   obtain⟨hjL,hju⟩:=qjb hj;have e1:=hVu (T.at j) (by rw[TG.at_ob];exact hjL);rw[TG.at_ob,TG.at_at,hju,TG.at_self,hv]at e1;cases hq:vw outs (T.at j)with
   |none=>rw[hq]at e1;cases e1
   |some v0=>
    rw[hq]at e1;simp only[Wd,Wb]at e1;subst e1;rw[hJs T j hj];have ho:=hc.obj _ v0 hq;cases hp:Jc (T.at j)with
    |none=>rw[hp]at ho;exact ho
    |some p=>
     rw[hp]at ho;obtain⟨g,o⟩:=p;rcases ho with⟨hp0,cur,c,h1,h2,h3,h4⟩|⟨h1,h2,es,k,hh,hm⟩
     ·refine .inl ⟨hp0,cur,c,h1,h2,h3,fun i f hi hf=> ?_⟩;obtain⟨u,hu,h5,hV⟩:=h4 i f hi hf;exact⟨u,hu,h5,hres _ u (jpn hfr hq i f) hV⟩
     ·exact .inr ⟨h1,h2,es,k,hh,hm.sb (fun _ _=>rfl) fun i u hV=>hres _ u (jpn hfr hq i 1) hV⟩
  |none=>
   rw[hVe T hj]at hv;cases hq:vw s.H T with
   |none=>rw[hq]at hv;cases hv
   |some v0=>
    rw[hq]at hv;simp only[Wd,Wb]at hv;subst hv;rw[hJe T hj];exact(h.obj T v0 hq).mv hmv (fun g o hp=>(hstay T g o hj hp).2) rfl rfl rfl (fun i f _ _ u hu=>VR.mv hmv _ u hu) (fun _ _=>HZ.of hmv fun _ _=>rfl)
 ·rcases hcase T g o hT with⟨j,hj,e⟩|⟨hj,e⟩
  ·obtain⟨h1,h2⟩:=hc.own _ _ _ e;refine⟨fun hu=>h1 (.inl hu),?_⟩;rcases h2 with h2|⟨T',o',h2⟩
   ·exact .inl (Kb h.size h2)
   ·obtain⟨_,h3⟩:=hpull T' _ h2;exact(h.own _ _ _ h3).2
  ·exact h.own _ _ _ e
 ·refine(hc.blk b (WL hb h.size) fun T o e=> ?_).trans (h.blk b hb hnb);obtain⟨_,h3⟩:=hpull T _ e;rcases(h.own _ _ _ h3).2 with hge|⟨T',o',e'⟩
  ·omega
  ·exact hnb T' o' e'
 ·cases hj:dn ρ n outs.length t with
  |none=>rw[hJe (.o t) hj];exact h.keep t ht
  |some j=>
   obtain⟨hjL,hju⟩:=qjb hj;have hj2:j<ρ.length:=by
    rcases Wz j ρ.length with h1|h1
    ·exact h1
    ·rw[qln h1]at hju;rw[hn t (by omega)]at ht;cases ht
   rw[qgk hj2]at hju;subst hju;have hk0:bt kp0 (ρ.getD j 0)=true:=by
    cases hb:bt kp0 (ρ.getD j 0)with
    |true=>rfl
    |false=>rw[hK _ hb]at ht;cases ht
   rw[(hkept j hj2 (q7k hkeep hkl hj2 hk0)).2.1];exact h.keep _ ht
 ·obtain⟨cur1,h1,h2⟩:=h.ksz t g o ht hg cur e hcur;have hg' :J (.o t)=some (g,o):=by rw[h.keep t ht];exact hg
  cases hj:dn ρ n outs.length t with
  |none=>exact⟨cur1,by rw[(hstay (.o t) g o hj hg').2];exact h1,h2⟩
  |some j=>
   obtain⟨hjL,hju⟩:=qjb hj;have hj2:j<ρ.length:=by
    rcases Wz j ρ.length with h1|h1
    ·exact h1
    ·rw[qln h1]at hju;rw[hn t (by omega)]at ht;cases ht
   rw[qgk hj2]at hju;subst hju;have hk0:bt kp0 (ρ.getD j 0)=true:=by
    cases hb:bt kp0 (ρ.getD j 0)with
    |true=>rfl
    |false=>rw[hK _ hb]at ht;cases ht
   have hk:=q7k hkeep hkl hj2 hk0;obtain⟨cur2,h3,h4⟩:=hc.ksz j g o hk (by rw[(hkept j hj2 hk).2.2];exact hg') cur1 e h1;exact⟨cur2,h3,h4.trans h2⟩
end
end Go.K
namespace Go.K
open Go.M Go.RowKit
variable {F : Nat -> Prop}
section
variable {U : Nat -> Prop} {w0 : World} {J0 : Pl} {K : Nat -> Bool} {N : Nat} {P : Program} {R Rf : Type}
def qu8(P:Program)(t:TypeId)(nm:String)(g:FuncId)(lo:Option TypeId):Prop:=
 ∀(ad:Addr) (v:Value) (w:World),(match lo with|none=>v= .pointer (some ad)|some e=>(Instr.loadAt e (.pointer (some ad))).run P w= .ok v w)->(method (P.types.size+Made.depth) t (.pointer (some ad)) nm).run P w= .ok (g,v) w
structure CtxOK (P : Program) (X : Ctx Rf) : Prop where
 fits : dq P X.tt
 mdl : ∀ f M, M ∈ X.Γ f -> MdlOK P f M
 mt : ∀ t nm g lo, mtG t nm = some (g, lo) -> qu8 P t nm g lo
theorem gf.map{G:Gr}{e:Operand->TV}{a:Act}:∀{l:List Operand},(∀x∈l,VR G (e x).gt (a.eval x))->gf G (l.map fun x=>(e x).gt) (l.map a.eval)
 |[],_=>rfl
 |x::l,h=>⟨_,_,rfl,h x Wf,gf.map fun y hy=>h y (We _ hy)⟩
theorem gf.vAps{G G' :Gr}{δ:List St}(h:∀A v,VR G A v->VR G' (vAps A δ) v):∀(cs:List TV) (l:List Value),gf G cs l->gf G' (j0u cs δ) l
 |[],_,hl=>hl
 |A::cs,l,hl=>by
  obtain⟨u,r,rfl,h1,h2⟩:=hl;exact⟨u,r,rfl,h A u h1,gf.vAps h cs r h2⟩
theorem q7r:∀(l:List TOb) (n i:Nat),i<l.length->∃o,St.new (n+i) o∈q4r n l
 |[],n,i,h=>by simp at h
 |o::l,n,i,h=>by
  cases i with
  |zero=>exact⟨o,Wf⟩
  |succ i=>
   obtain⟨o',h'⟩:=q7r l (n+1) i (by simpa using h);exact⟨o',We _ (by rw[show n+(i+1)=n+1+i by omega];exact h')⟩
theorem jus{n:Nat}{ρ:List Nat}{kp:List Bool}{outs:List TOb}{j:Nat}(h1:ρ.length<=j)(h2:j<outs.length):∃o,St.new (upN ρ n j) o∈qg0 n ρ kp outs:=by
 obtain⟨o,h⟩:=q7r (cx (upA ρ n) (outs.drop ρ.length)) n (j-ρ.length) (by rw[c7,Hk];omega);exact⟨o,We _ (Ke _ (by rw[qln h1];exact h))⟩
theorem jz5:∀(S:List (Nat×TV)),sbS (fun _=> .id) S=S
 |[]=>rfl
 |(a,v)::l=>by simp only[sbS,TV.sb_id,jz5 l]
theorem TOb.sb_id(o:TOb):o.sb (fun _=> .id)=o:=by cases o<;>simp[TOb.sb,TV.sbL_id]
theorem jz4:∀(H:List TOb),cx (fun _=> .id) H=H
 |[]=>rfl
 |o::l=>by simp only[cx,TOb.sb_id,jz4 l]
theorem jur(s:TS)(n:Nat)(ρ:List Nat)(kp:List Bool)(outs:List TOb):s.aps (jp7 n ρ kp outs)=s.aps (qg0 n ρ kp outs):=by
 cases ρ with
 |cons a ρ=>rfl
 |nil=>
  have e:qb7 [] kp=fun _=> .id:=by
   funext T;cases T<;>rfl
  have e2:s.ap (.sb (qb7 [] kp))=s:=by
   rw[e];simp only[TS.ap,sAp,hAp,jz5,jz4]
  show _=(s.ap (.sb (qb7 [] kp))).aps _;rw[e2];rfl
theorem jp8{n:Nat}{ρ:List Nat}{kp:List Bool}{outs:List TOb}{j:Nat}(h1:ρ.length<=j)(h2:j<outs.length):∃o,St.new (upN ρ n j) o∈jp7 n ρ kp outs:=by
 cases ρ with
 |cons a ρ=>exact jus h1 h2
 |nil=>
  obtain⟨o,h⟩:=q7r (cx (upA [] n) outs) n j (by rw[c7];exact h2);exact⟨o,by rw[qln h1];exact h⟩
def jwy(P:Program)(a:Act)(w:World)(o:Oper)(fid:FuncId)(l:List Value):Prop:=jco P fid->(execOp a.eval o).run P w= .ok (.enter fid l.toArray) w
def Ent(P:Program)(a:Act)(w:World)(o:Oper)(args:Array Operand)(fid:FuncId)(caps:List Value):Prop:=jwy P a w o fid ((args.toList.map a.eval)++caps)
theorem zbp{o:Oper}{a:Act}{w:World}{f:Operand}{args:Array Operand}{ts:Array TypeId}(ho:o.op= .call ⟨.value f,args,ts⟩){g:FuncId}{l:List Value}(hv:a.eval f= .func (.func g) #[] l.toArray):Ent P a w o args g l:=by
 intro hc;unfold execOp;simp only[ho,resolve,WJ,hv,Deferred.ofValue,WU,Wy,invoke];rw[qbi hc];simp
theorem zbo{o:Oper}{a:Act}{w:World}{f:Operand}{args:Array Operand}{ts:Array TypeId}(ho:o.op= .call ⟨.value f,args,ts⟩){g:FuncId}{l:List Value}(hv:a.eval f= .func (.func g) l.toArray #[])(ha:args.toList=[]):Ent P a w o args g l:=by
 intro hc;have:args= #[]:=Array.toList_eq_nil_iff.1 ha;subst this;unfold execOp;simp only[ho,resolve,WJ,hv,Deferred.ofValue,WU,Wy,invoke];rw[qbi hc];simp
theorem jx5{o:Oper}{a:Act}{w:World}{f:Operand}{args:Array Operand}{ts:Array TypeId}(ho:o.op= .call ⟨.value f,args,ts⟩){fid:FuncId}{l:List Value}(hv:a.eval f=fnV fid l):
  (Nat.blt fid qcw=true->Ent P a w o args fid l)/\(Nat.blt fid qcw=false->Nat.blt fid qc2=true->args.toList=[]->Ent P a w o args (fid-qcw) l):=
 ⟨fun hb=>zbp ho (hv.trans (by rw[fnV,hb,WQ])),fun hb hg ha=>zbo ho (hv.trans (by rw[fnV,hb,hg,W9,WQ])) ha⟩
theorem j4e{o:Oper}{a:Act}{w:World}{rv:Operand}{nm:String}{args:Array Operand}{ts:Array TypeId}(ho:o.op= .call ⟨.invoke rv nm,args,ts⟩){t:TypeId}{ad:Addr}{v:Value}{g:FuncId}(hv:a.eval rv= .iface t (.pointer (some ad)))
  (hm:(method (P.types.size+Made.depth) t (.pointer (some ad)) nm).run P w= .ok (g,v) w):jwy P a w o g (v::args.toList.map a.eval):=by
 intro hc;unfold execOp;simp only[ho,resolve,WJ,hv,WU,Wy,invoke];have e0:(#[Value.iface t (.pointer (some ad))]++args.map a.eval)[0]? =some (.iface t (.pointer (some ad))):=by
  rw[Ku (by show 0<1;omega)];rfl
 simp only[e0,callMethod,WJ,run_program,Wy,hm];rw[qbi hc];simp;exact List.take_of_length_le (by simp)
theorem jkb{X:Ctx Rf}{o:Oper}{s:TS}{a:Act}{w:World}{J:Pl}(hr:dr U w0 J0 K N s a w J){Hv:List TOb}(hl:HLe F Hv s.H)(hK:∀t,bt X.kp t=false->K t=false)(hn:∀t,Hv.length<=t->K t=false){k:List St->TV->Option R}{r:R}(hnew:∀δ v,k δ v=some r->∀t o,St.new t o∈δ->F t){fid:FuncId}{vs:List TV}
  (hf:∃l,jwy P a w o fid l/\gf (gr U (vw s.H) w J) vs l):∀(l:List Mdl),(∀M∈l,MdlOK P fid M)->q3j X l vs Hv k=some r->qq P U w0 J0 K N o s a w k r
 |[],_,hk=>by simp[q3j]at hk
 |M::l,hM,hk=>by
  unfold q3j at hk;split at hk
  ·rename_i aa ρ bs hdec;obtain⟨hb,hk⟩:=ai hk;simp only[Wc]at hb;obtain⟨⟨⟨⟨hdis,hall⟩,hlent⟩,hkeep⟩,hkl⟩:=hb;have hok:=hM M Wf;cases hm:M.m aa with
   |none=>rw[hm]at hk;cases hk
   |some b=>
    rw[hm]at hk;obtain⟨hlens,hk⟩:=bn (show ckL _ _=some r from hok.cs _ _ _ _ hk);obtain⟨vl,hfv,hcaps⟩:=hf;obtain⟨hHR,hargs⟩:=hok.dec _ _ _ _ _ _ ⟨hl.at_,fun _ _ hf=>hf.elim,hl.len⟩ hdec hdis hall hlent U w0 J0 K w J hr.hr;have hvs:=hargs _ hcaps;obtain⟨hfr1,hfr2⟩:=hok.fresh aa b hm;refine⟨_,_,hk,fun Q KK hKK=> ?_⟩;have hrun:=hfv hok.fn;unfold Oper.wp;rw[hrun];simp only[Oper.upon];refine(hok.run aa b hm _ w _ hHR _ hvs).mono ?_;rintro e w' ⟨v,Jc,rfl,hc,hv⟩;obtain⟨J',hr',hv'⟩:=j7c hr hl hK hn hdis hall hkeep (ax hkl) hlens hfr2 hfr1 (fun j h1 h2=>(jp8 h1 h2).elim fun o ho=>hnew _ _ hk _ o ho) hc hv;rw[<-jur]at hr' hv';exact hKK _ _ _ (hr'.put o.dst hv')
  ·exact jkb hr hl hK hn hnew hf l (fun M hM' =>hM M (We _ hM')) hk
theorem Low.ofY{w:World}{Y Y' :Nat->Prop}(h:∀b,b<w.heap.size->¬Y b->¬Y' b):Low w Y w Y' :=⟨Wg _,h,fun _ _ _=>rfl⟩
mutual
theorem VR.up{V:TG->Option Vw}{w:World}{J:Pl}:∀(A:TV) (v:Value),VR (gr U V w J) A v->VR (gr (da J) (vw []) w (fun _=>none)) A.up v
 | .any,_,_=>trivial
 | .int k n,v,h=>h
 | .bool b,v,h=>h
 | .val u,v,h=>h
 | .e0,v,h=>h
 | .sl fr t xs,v,h=>Ty.C_low (Low.ofY (by
   rintro b _ hb (⟨T,o,hT⟩|⟨_,hY⟩)
   ·cases hT
   ·exact hb (.inl hY))) (.slice t) xs 0 v h
 | .rptr fr t xs i f,v,h=>by
  obtain⟨b,o,rfl,hr⟩:=h;refine⟨b,o,rfl,hr.low (Low.ofY ?_)⟩;rintro b _ hb (⟨T,o,hT⟩|⟨_,hY⟩)
  ·cases hT
  ·exact hb (.inl hY)
 | .own _,_,_=>trivial
 | .ownS _ _ _,_,_=>trivial
 | .ptr _ _ _,_,_=>trivial
 | .mp _,_,_=>trivial
 | .dm fr kt vt es,v,h=>q04.low (Low.ofY (by
   rintro b _ hb (⟨T,o,hT⟩|⟨_,hY⟩)
   ·cases hT
   ·exact hb (.inl hY))) h
 | .fn f cs,v,h=>by
  obtain⟨l,hl,hc⟩:=h;exact⟨l,hl,gf.up cs l hc⟩
 | .agg cs,v,h=>by
  obtain⟨l,hl,hc,h1⟩:=h;exact⟨l,hl,gf.up cs l hc,h1⟩
 | .tup cs,v,h=>by
  obtain⟨l,hl,hc⟩:=h;exact⟨l,hl,gf.up cs l hc⟩
 | .cond c a,v,h=>by
  unfold TV.up;unfold VR at h⊢;split
  ·rename_i hc;rw[if_pos hc]at h;exact VR.up a v h
  ·rename_i hc;rw[if_neg hc]at h;exact h
 | .nl _ a,v,h=>⟨VR.up a v h.1,h.2⟩
theorem gf.up{V:TG->Option Vw}{w:World}{J:Pl}:∀(cs:List TV) (l:List Value),gf (gr U V w J) cs l->gf (gr (da J) (vw []) w (fun _=>none)) (TV.upL cs) l
 |[],l,h=>h
 |A::cs,l,h=>by
  obtain⟨u,r,rfl,h1,h2⟩:=h;exact⟨u,r,rfl,VR.up A u h1,gf.up cs r h2⟩
end
mutual
theorem VR.dw{V V' :TG->Option Vw}{w:World}{J Jc:Pl}{U' :Nat->Prop}(hU:∀b,da J b->U' b):∀(A:TV) (v:Value),A.fresh=true->VR (gr U' V' w Jc) A v->VR (gr U V w J) A.dw v
 | .any,_,_,_=>trivial
 | .int k n,v,_,h=>h
 | .bool b,v,_,h=>h
 | .val u,v,_,h=>h
 | .e0,v,_,h=>h
 | .sl fr t xs,v,hf,h=>by
  have hf:fr=true:=hf;subst hf;refine Ty.C_low (Low.ofY ?_) (.slice t) xs 0 v h;rintro b _ hb (hY|⟨hY,_⟩)
  ·exact hb (.inr ⟨rfl,hU b hY⟩)
  ·cases hY
 | .rptr fr t xs i f,v,hf,h=>by
  have hf:fr=true:=hf;subst hf;obtain⟨b,o,rfl,hr⟩:=h;refine⟨b,o,rfl,hr.low (Low.ofY ?_)⟩;rintro b _ hb (hY|⟨hY,_⟩)
  ·exact hb (.inr ⟨rfl,hU b hY⟩)
  ·cases hY
 | .own _,_,_,_=>trivial
 | .ownS _ _ _,_,_,_=>trivial
 | .ptr _ _ _,_,_,_=>trivial
 | .mp _,_,_,_=>trivial
 | .dm fr kt vt es,v,hf,h=>by
  have hf:fr=true:=hf;subst hf;refine q04.low (Low.ofY ?_) h;rintro b _ hb (hY|⟨hY,_⟩)
  ·exact hb (.inr ⟨rfl,hU b hY⟩)
  ·cases hY
 | .fn f cs,v,hf,h=>by
  obtain⟨l,hl,hc⟩:=h;exact⟨l,hl,gf.dw hU cs l hf hc⟩
 | .agg cs,v,hf,h=>by
  obtain⟨l,hl,hc,h1⟩:=h;exact⟨l,hl,gf.dw hU cs l hf hc,h1⟩
 | .tup cs,v,hf,h=>by
  obtain⟨l,hl,hc⟩:=h;exact⟨l,hl,gf.dw hU cs l hf hc⟩
 | .cond c a,v,hf,h=>by
  unfold TV.dw;unfold VR at h⊢;split
  ·rename_i hc;rw[if_pos hc]at h;exact VR.dw hU a v hf h
  ·rename_i hc;rw[if_neg hc]at h;exact h
 | .nl _ a,v,hf,h=>⟨VR.dw hU a v hf h.1,h.2⟩
theorem gf.dw{V V' :TG->Option Vw}{w:World}{J Jc:Pl}{U' :Nat->Prop}(hU:∀b,da J b->U' b):∀(cs:List TV) (l:List Value),TV.freshL cs=true->gf (gr U' V' w Jc) cs l->gf (gr U V w J) (TV.dwL cs) l
 |[],l,_,h=>h
 |A::cs,l,hf,h=>by
  simp only[TV.freshL,Wc]at hf;obtain⟨u,r,rfl,h1,h2⟩:=h;exact⟨u,r,rfl,VR.dw hU A u hf.1 h1,gf.dw hU cs r hf.2 h2⟩
end
theorem jyk{s:TS}{a:Act}{w w' :World}{J:Pl}(hr:dr U w0 J0 K N s a w J)(hos:w'.os=w.os)(htape:w'.tape=w.tape)(hout:w'.output=w.output)(hsize:w.heap.size<=w'.heap.size)(hblk:∀b,b<w.heap.size->w'.heap[b]? =w.heap[b]?):
  dr U w0 J0 K N s a w' J:=by
 have hlt:∀{T:TG} {g o:Nat},J T=some (g,o)->g<w.heap.size:=fun hJ=>hr.hr.lt hJ
 have hV:∀T,vw s.H T=(vw s.H T).map (Vw.sb fun _=> .id):=by
  intro T;cases vw s.H T with
  |none=>rfl
  |some v=>
   have:Vw.sb (fun _=> .id) v=v:=by
    cases v;simp[Vw.sb,TV.sb_id]
   rw[Wd,this]
 have m:Mv (fun _=> .id) (gr U (vw s.H) w J) (gr U (vw s.H) w' J):=by
  refine⟨hsize,fun b _ hb=>hb,fun b _ _ hb=>hb,fun b hb _=>hblk b hb,fun T T' q ht hq=> ?_,fun T fr u xs q ht _=>by cases ht⟩;rcases ht with⟨_,rfl⟩|ht
  ·exact⟨hq,fun g o hg=>⟨hg,fun cur e hh=>⟨cur,(hblk g (hlt hg)).trans hh,rfl⟩⟩⟩
  ·cases ht
 refine hr.go m (fun t=>(TV.sb_id _).symm) ?_;exact hr.hr.upd (fun _=>False) m (fun T _=>hV T) (fun _ _=>rfl) (fun T g o _ hJ=>hblk g (hlt hJ)) (fun _ _ h=>h.elim) (fun _ _ h=>h.elim) (fun _ _ _ h=>h.elim) hr.hr.inj hos htape hout (fun _ _ h=>h.elim) (fun _ _ _ _ h=>h.elim)
theorem jm5{o:Oper}{s:TS}{a:Act}{w:World}{J:Pl}(hr:dr U w0 J0 K N s a w J){k:List St->TV->Option R}{r:R}{fid:FuncId}{vs:List TV}
  (hf:∃l,jwy P a w o fid l/\gf (gr U (vw s.H) w J) vs l):∀(l:List Mdl),(∀M∈l,MdlOK P fid M)->q9g l vs k=some r->qq P U w0 J0 K N o s a w k r
 |[],_,hk=>by simp[q9g]at hk
 |M::l,hM,hk=>by
  unfold q9g at hk;split at hk
  ·rename_i aa hdec;have hok:=hM M Wf;cases hm:M.m aa with
   |none=>rw[hm]at hk;cases hk
   |some b=>
    rw[hm]at hk;have hk:(match M.outs aa b with|[]=>k [] (M.res aa b).dw|_=>none)=some r:=hk;split at hk
    ·rename_i houts;obtain⟨vl,hfv,hcaps⟩:=hf;have hempty:∀T:TG,vw [] T=none:=fun T=>by cases T<;>simp[vw]
     have h0:HR (da J) w (fun _=>none) (fun _=>false) (vw []) w (fun _=>none):=by
      refine⟨(fun _ _ _ _ _ h=>by cases h),(fun _ _ h=>by cases h),fun T v h=> ?_,(fun _ _ _ h=>by cases h),rfl,rfl,rfl,Wg _,fun _ _ _=>rfl,(fun _ h=>by cases h),(fun _ _ _ h=>by cases h),fun b ⟨T,o,hT⟩=>hr.hr.lt hT,fun g c hc=>⟨(hr.hr.tb g c hc).1,fun _ _ h=>by cases h⟩⟩;rw[hempty]at h;cases h
     obtain⟨hHR,hargs⟩:=hok.dec _ _ _ _ _ _ (HLe.refl []) hdec rfl rfl rfl (da J) w (fun _=>none) (fun _=>false) w (fun _=>none) h0;have hvs:=hargs _ (gf.up _ _ hcaps);obtain⟨hfr1,hfr2⟩:=hok.fresh aa b hm;refine⟨_,_,hk,fun Q KK hKK=> ?_⟩;have hrun:=hfv hok.fn;unfold Oper.wp;rw[hrun];simp only[Oper.upon];refine(hok.run aa b hm _ w _ hHR _ hvs).mono ?_;rintro e w' ⟨v,Jc,rfl,hc,hv⟩;rw[houts]at hc hv;have hblk:∀b,b<w.heap.size->w'.heap[b]? =w.heap[b]? :=fun b hb=>hc.blk b hb fun T o h=>by
      unfold qp5 at h;split at h
      ·cases h
      ·cases h
     have hr' :=jyk hr hc.os hc.tape hc.output hc.size hblk;exact hKK _ _ _ (hr'.put o.dst (VR.dw (fun b hb=> .inl hb) _ _ hfr1 hv))
    ·cases hk
  ·exact jm5 hr hf l (fun M hM' =>hM M (We _ hM')) hk
theorem jc6{X:Ctx Rf}(hX:CtxOK P X){o:Oper}{s:TS}{a:Act}{w:World}{J:Pl}(hr:dr U w0 J0 K N s a w J){Hv:List TOb}(hl:HLe F Hv s.H)(hK:∀t,bt X.kp t=false->K t=false)(hn:∀t,Hv.length<=t->K t=false){k:List St->TV->Option R}{r:R}(hnew:∀δ v,k δ v=some r->∀t o,St.new t o∈δ->F t){g:FuncId}{vs:List TV}{vl:List Value}
  (hent:jwy P a w o g vl) (hv:gf (gr U (vw s.H) w J) vs vl) (hk:qzr X (X.Γ g) vs Hv k=some r):qq P U w0 J0 K N o s a w k r:=by
 unfold qzr at hk;cases hh:jkq (X.Γ g) vs Hv with
 |true=>
  rw[hh]at hk;exact jkb hr hl hK hn hnew ⟨vl,hent,hv⟩ _ (fun M hM=>hX.mdl g M hM) hk
 |false=>
  rw[hh]at hk;cases hdt:X.dt with
  |false=>rw[hdt]at hk;exact jm5 hr ⟨vl,hent,hv⟩ _ (fun M hM=>hX.mdl g M hM) hk
  |true=>
   rw[hdt]at hk;simp only[WQ,W9]at hk;unfold jxk at hk;split at hk
   ·rename_i δ hδ;obtain⟨hg,hl1⟩:=qjs hK _ Hv s δ hl hδ;have hlen:=qq9 _ _ _ hδ;obtain⟨J1,hr1,hmv⟩:=hg a w J hr;obtain⟨δ',v,h2,h3⟩:=jkb (s:=s.aps δ) (Hv:=jt Hv δ) (k:=fun δ' v=>k (δ++δ') v) hr1 (by rw[qol];exact hl1) hK (by rw[hlen];exact hn) (fun δ' v h t' o' hm=>hnew _ _ h t' o' (Ke _ hm)) ⟨vl,hent,gf.vAps hmv _ _ hv⟩ _ (fun M hM=>hX.mdl g M hM) hk;exact⟨δ++δ',v,h2,fun Q KK h=>h3 Q KK (by rw[<-qja];exact h)⟩
   ·cases hk
theorem jdp{G:Gr}{A:TV}{v:Value}(hn:A.isNl=true)(h:VR G A v):jap v:=by
 unfold TV.isNl at hn;split at hn
 ·exact h.2
 ·simp only[VR]at h;subst h;exact fun a c e=>by cases e;rfl
 ·cases hn
theorem jve{G:Gr}{b:Bool}{A:TV}{v:Value}(hn:A.isN b=true)(h:VR G A v):jw3 (some b) v:=by
 cases b with
 |false=>exact jdp hn h
 |true=>
  have hn:A.isT=true:=hn;unfold TV.isT at hn;split at hn
  ·exact h.2
  ·cases hn
theorem jvu{G:Gr}{A:TV}{v:Value}(h:VR G A v):jw3 A.nlB v:=by
 unfold TV.nlB;split
 ·exact h.2
 ·simp only[VR]at h;subst h;exact fun a c e=>by cases e;rfl
 ·trivial
theorem j17{X:Ctx Rf}(hX:CtxOK P X){o:Oper}{s:TS}{a:Act}{w:World}{J:Pl}(hr:dr U w0 J0 K N s a w J){Hv:List TOb}(hl:HLe F Hv s.H)(hK:∀t,bt X.kp t=false->K t=false){e:Operand->TV}(he:∀x∈o.op.operands,VR (gr U (vw s.H) w J) (e x) (a.eval x)){k:List St->TV->Option R}{r:R}(hnew:∀δ v,k δ v=some r->∀t o,St.new t o∈δ->F t)
  (hk:jx2 X o.op e Hv k=some r):qq P U w0 J0 K N o s a w k r:=by
 have hF:=hX.fits;unfold jx2 at hk;have hkp:=(ai hk).1
 replace hk:=(ai hk).2
 replace hkp:=qc3 hkp
 have hn:∀t,Hv.length<=t->K t=false:=fun t ht=>hK t (by
  unfold bt;rw[Wa,Wp (by omega)];rfl)
 have hn0:=hn _ (Wg _);unfold jqf at hk;split at hk
 ·rename_i t hop;split at hk
  ·rename_i x ht;have hb:=(ai hk).1
   replace hk:=(ai hk).2
   simp only[Wc]at hb;exact jw8 hF hr hl hn0 hnew hop ht (ax hb.1) hb.2 hk
  ·cases hk
 ·rename_i t x hop;split at hk
  ·rename_i ti ht;split at hk
   ·rename_i cs hc;have h1:=(bn hk).1
    replace hk:=(bn hk).2
    exact j7a hr hl hn0 hnew hop ((he x (by rw[hop];simp[Op.operands,Call.operands])).gt h1) hc hk
   ·cases hk
  ·cases hk
 ·rename_i t p x hop;split at hk
  ·rename_i ti ht;have h1:=(bn hk).1
   replace hk:=(bn hk).2
   obtain⟨h1,h2⟩:=gb.app h1;exact j0l hF hr hl hK hop ht ((he p (by rw[hop];simp[Op.operands,Call.operands])).gt h1) ((he x (by rw[hop];simp[Op.operands,Call.operands])).gt h2) hk
  ·cases hk
 ·rename_i t l c hop;split at hk
  ·rename_i el b1 b2 z1 ht;split at hk
   ·rename_i u ei hel;split at hk
    ·rename_i k1 lv k2 cv hlv hcv;have h1:=(bn hk).1
     replace hk:=(bn hk).2
     obtain⟨h1,h2⟩:=gb.app h1;obtain⟨h2,h3⟩:=gb.app h2;have v1:=(he l (by rw[hop];simp[Op.operands,Call.operands])).gt h1;have v2:=(he c (by rw[hop];simp[Op.operands,Call.operands])).gt h2;rw[hlv]at v1;rw[hcv]at v2;exact j2y hF hr hl hn0 hnew hop ht hel v1 v2 (h3 _ Wf) hk
    ·cases hk
   ·cases hk
  ·cases hk
 ·rename_i t len ps hop;split at hk
  ·rename_i el b1 b2 z1 ht;split at hk
   ·rename_i ei hel;have hb:=(ai hk).1
    replace hk:=(ai hk).2
    simp only[Wc]at hb;obtain⟨⟨⟨hb1,hb2⟩,hb3⟩,hb4⟩:=hb;split at hk
    ·rename_i δ hδ;split at hk
     ·rename_i L hL;have h1:=(bn hk).1
      replace hk:=(bn hk).2
      have hgo:(q6v U w0 J0 K N s δ/\HLe F (jt Hv δ) (jt s.H δ))/\(jt Hv δ).length=Hv.length:=by
       unfold bsD at hδ;cases hdt:X.dt with
       |true=>rw[hdt]at hδ;exact⟨qjs hK _ Hv s δ hl hδ,qq9 _ _ _ hδ⟩
       |false=>rw[hdt]at hδ;cases hδ;exact⟨⟨q6v.nil s,hl⟩,rfl⟩
      obtain⟨⟨hg,hl1⟩,hlen⟩:=hgo;obtain⟨J1,hr1,hmv⟩:=hg a w J hr;rw[<-hlen]at hk hn0;have hd:qq P U w0 J0 K N o (s.aps δ) a w (fun δ' v=>k (δ++δ') v) r:=by
       refine jxg (s:=s.aps δ) (Hv:=jt Hv δ) (e:=fun x=>vAps (e x).gt δ) hF hr1 (by rw[qol];exact hl1) hn0 (fun δ' v h t' o' hm=>hnew _ _ h t' o' (Ke _ hm)) rfl hop ht hel hL (fun p hp=> ?_) (ax hb1) hb2 (cm hb3) (qc3 hb4) hk;exact hmv _ _ ((he p.2 (by rw[hop];simp only[Op.operands];exact List.mem_toArray.2 (WG.2 ⟨p,hp,rfl⟩))).gt (q7q h1 p.2 (WG.2 ⟨p,hp,rfl⟩)))
      obtain⟨δ',v,h2,h3⟩:=hd;exact⟨δ++δ',v,h2,fun Q KK h=>h3 Q KK (by rw[<-qja];exact h)⟩
     ·cases hk
    ·cases hk
   ·cases hk
  ·cases hk
 ·rename_i t hop;refine jn5 hr hl hn0 hnew (fun kt et ht=> ?_) hk;unfold execOp;simp[hop,Instr.makeMap,newObj];rfl
 ·rename_i t y hop;split at hk
  ·rename_i ik n hy;have h1:=(bn hk).1
   replace hk:=(bn hk).2
   have v1:=(he y (by rw[hop];simp[Op.operands,Call.operands])).gt h1;rw[hy]at v1;have v1:a.eval y= .int ik n:=v1;refine jn5 hr hl hn0 hnew (fun kt et ⟨a1,b1,z1,ht⟩=> ?_) hk;unfold execOp;simp[hop,Instr.makeMap,newObj,v1,asInt,asIntOf,Wq (oh hF ht)];rfl
  ·cases hk
 ·rename_i t m key hop;have h1:=(bn hk).1
  replace hk:=(bn hk).2
  obtain⟨h1,h2⟩:=gb.app h1;exact jy7 hF hr hl rfl hop ((he m (by rw[hop];simp[Op.operands,Call.operands])).gt h1) ((he key (by rw[hop];simp[Op.operands,Call.operands])).gt h2) hk
 ·rename_i t m key x hop;have h1:=(bn hk).1
  replace hk:=(bn hk).2
  obtain⟨h1,h2⟩:=gb.app h1;obtain⟨h2,h3⟩:=gb.app h2;refine js6 hF hr hl rfl hK (fun w' hw=> ?_) ((he m (by rw[hop];simp[Op.operands,Call.operands])).gt h1) ((he key (by rw[hop];simp[Op.operands,Call.operands])).gt h2) ((he x (by rw[hop];simp[Op.operands,Call.operands])).gt h3) hk;unfold execOp;simp[hop,hw]
 ·rename_i t m key x hop;have h1:=(bn hk).1
  replace hk:=(bn hk).2
  obtain⟨h1,h2⟩:=gb.app h1;obtain⟨h2,h3⟩:=gb.app h2;refine js6 hF hr hl rfl hK (fun w' hw=> ?_) ((he m (by rw[hop];simp[Op.operands,Call.operands])).gt h1) ((he key (by rw[hop];simp[Op.operands,Call.operands])).gt h2) ((he x (by rw[hop];simp[Op.operands,Call.operands])).gt h3) hk;unfold execOp;simp[hop,hw]
 ·rename_i d x t t' hop;split at hk
  ·rename_i el b1 b2 z1 ht;split at hk
   ·rename_i u ei hel;have h1:=(bn hk).1
    replace hk:=(bn hk).2
    obtain⟨h1,h2⟩:=gb.app h1;exact j1v hF hr hl hK hop ht hel ((he d (by rw[hop];simp[Op.operands,Call.operands])).gt h1) ((he x (by rw[hop];simp[Op.operands,Call.operands])).gt h2) hk
   ·cases hk
  ·cases hk
 ·rename_i d t hop;split at hk
  ·rename_i el b1 b2 z1 ht;split at hk
   ·rename_i u ei hel;have h1:=(bn hk).1
    replace hk:=(bn hk).2
    exact jxp hF hr hl hop ht hel ((he d (by rw[hop];simp[Op.operands,Call.operands])).gt h1) hk
   ·cases hk
  ·cases hk
 ·rename_i m key t t2 hop;have h1:=(bn hk).1
  replace hk:=(bn hk).2
  obtain⟨h1,h2⟩:=gb.app h1;exact j2z hF hr hl rfl hop ((he m (by rw[hop];simp[Op.operands,Call.operands])).gt h1) ((he key (by rw[hop];simp[Op.operands,Call.operands])).gt h2) hk
 ·rename_i d x t t' hop;cases hb:Nat.beq t t' with
  |false=>
   rw[hb]at hk;exact j1d hF hr hl rfl (hn _ (Wg _)) hnew hop (he d (by rw[hop];simp[Op.operands,Call.operands])) (he x (by rw[hop];simp[Op.operands,Call.operands])) hk
  |true=>
  rw[hb]at hk;simp only[WQ]at hk
  replace hb:=ax hb
  subst hb;split at hk
  ·rename_i el b1 b2 z1 ht;split at hk
   ·rename_i u ei hel;have h1:=(bn hk).1
    replace hk:=(bn hk).2
    obtain⟨h1,h2⟩:=gb.app h1;exact jul hF hr hl hK hn hnew hop ht hel ((he d (by rw[hop];simp[Op.operands,Call.operands])).gt h1) ((he x (by rw[hop];simp[Op.operands,Call.operands])).gt h2) (fun hn=>jdp hn (he d (by rw[hop];simp[Op.operands,Call.operands]))) hk
   ·cases hk
  ·cases hk
 ·rename_i f args ts hop;split at hk
  ·rename_i fid caps hfv;have key:∀g,(∀l,a.eval f=fnV fid l->Ent P a w o args g l)->ckL ((e f).nd++nds e args.toList) (qzr X (X.Γ g) ((args.toList.map fun x=>(e x).gt)++caps) Hv k)=some r->qq P U w0 J0 K N o s a w k r:=by
    intro g hent hk;have h1:=(bn hk).1
    replace hk:=(bn hk).2
    obtain⟨h1,h2⟩:=gb.app h1;have v1:=(he f (by rw[hop];simp[Op.operands,Call.operands])).gt h1;rw[hfv]at v1;obtain⟨caps',hv1,hc1⟩:=v1;have v2:=gf.map fun x hx=>(he x (by rw[hop];simpa[Op.operands,Call.operands]using Or.inr hx)).gt (q7q h2 x hx)
    exact jc6 hX hr hl hK hn hnew (hent _ hv1) (gf.app v2 hc1) hk
   cases hb:Nat.blt fid qcw with
   |true=>rw[hb]at hk;exact key fid (fun l hl=>(jx5 hop hl).1 hb) hk
   |false=>
    rw[hb]at hk;simp only[W9]at hk;split at hk
    ·rename_i hargs;obtain⟨hg,hk⟩:=ai hk;exact key _ (fun l hl=>(jx5 hop hl).2 hb hg hargs) hk
    ·cases hk
  ·cases hk
 ·rename_i rv nm args ts hop;have hrv:=he rv (by rw[hop];simp[Op.operands,Call.operands]);have hargs:∀x∈args.toList,VR (gr U (vw s.H) w J) (e x) (a.eval x):=fun x hx=>he x (by rw[hop];simpa[Op.operands,Call.operands]using Or.inr hx)
  split at hk
  ·rename_i f A hfv;obtain⟨hg,hk⟩:=ai hk;have hg:=Ky hg;have hif:∀v:Value,gb (e rv).nd->∀{T:TG} {i:Int} {o' :Nat},A.gt= .ptr T i o' ->gb A.nd->∃ad,a.eval rv= .iface (f-qc2) (.pointer (some ad))/\VR (gr U (vw s.H) w J) A.gt (.pointer (some ad)):=by
    intro _ h1 T i o' hA h2;have v1:=hrv.gt h1;rw[hfv]at v1;obtain⟨l,hp,u,r',rfl,hu,hr'⟩:=v1;have hu:=hu.gt h2;have hu' :=hu;rw[hA]at hu;obtain⟨g,oo,n,sz,_,_,rfl⟩:=hu;refine⟨_,?_,hu'⟩;rw[hp];unfold fnV;rw[show Nat.blt f qcw=false by
     cases hb:Nat.blt f qcw with
     |false=>rfl
     |true=>have:=cm hb;unfold qcw at this;unfold qc2 at hg;omega,show Nat.blt f qc2=false by
     cases hb:Nat.blt f qc2 with
     |false=>rfl
     |true=>have:=cm hb;omega]
    rfl
   split at hk
   ·rename_i g T i oo hm hA;have h1:=(bn hk).1
    replace hk:=(bn hk).2
    obtain⟨h1,h2⟩:=gb.app h1;obtain⟨h2,h3⟩:=gb.app h2;obtain⟨ad,hv,hu⟩:=hif undef h1 hA h2;rw[hA]at hu;have hv2:gf (gr U (vw s.H) w J) (.ptr T i oo::(args.toList.map fun x=>(e x).gt)) (.pointer (some ad)::args.toList.map a.eval):=⟨_,_,rfl,hu,gf.map fun x hx=>(hargs x hx).gt (q7q h3 x hx)⟩;exact jc6 hX hr hl hK hn hnew (j4e hop hv (hX.mt _ _ _ _ hm ad _ w rfl)) hv2 hk
   ·rename_i g t T i oo hm hA;split at hk
    ·rename_i cs B hld;have h1:=(bn hk).1
     replace hk:=(bn hk).2
     obtain⟨h1,h2⟩:=gb.app h1;obtain⟨h2,h3⟩:=gb.app h2;obtain⟨h3,h4⟩:=gb.app h3;obtain⟨h4,h5⟩:=gb.app h4;obtain⟨ad,hv,hu⟩:=hif undef h1 hA h2;rw[hA]at hu;obtain⟨u,hrun,hB⟩:=qv1 (P:=P) hX.fits (hl.sees hr.hr) hu hld h3;have hv2:gf (gr U (vw s.H) w J) (B.gt::(args.toList.map fun x=>(e x).gt)) (u::args.toList.map a.eval):=⟨_,_,rfl,hB.gt h4,gf.map fun x hx=>(hargs x hx).gt (q7q h5 x hx)⟩;exact jc6 hX hr hl hK hn hnew (j4e hop hv (hX.mt _ _ _ _ hm ad _ w hrun)) hv2 hk
    ·cases hk
   ·cases hk
  ·cases hk
 ·cases hk
theorem jcl{X:Ctx Rf}(hX:CtxOK P X){o:Oper}{s:TS}{a:Act}{w:World}{J:Pl}(hr:dr U w0 J0 K N s a w J){Hv:List TOb}(hl:HLe F Hv s.H)(hK:∀t,bt X.kp t=false->K t=false){e:Operand->TV}(he:∀x∈o.op.operands,VR (gr U (vw s.H) w J) (e x) (a.eval x)){k:List St->TV->Option R}{r:R}(hnew:∀δ v,k δ v=some r->∀t o,St.new t o∈δ->F t)
  (hk:qmb X o.op e Hv k=some r):qq P U w0 J0 K N o s a w k r:=by
 unfold qmb at hk;split at hk
 ·rename_i cs v hp;have hC:=(bn hk).1
  replace hk:=(bn hk).2
  obtain⟨u,hrun,hv⟩:=jiw hX.fits hp hC (hl.sees hr.hr) he;exact qq.val (δ:=[]) hk hrun hr hv
 ·exact j17 hX hr hl hK he hnew hk
theorem jwh{X:Ctx Rf}(hX:CtxOK P X){o:Oper}{s:TS}{a:Act}{w:World}{J:Pl}(hr:dr U w0 J0 K N s a w J){Hv:List TOb}(hS:Sees (gr U (vw s.H) w J) Hv)(hld:zd o.op=true){e:Operand->TV}(he:∀x∈o.op.operands,VR (gr U (vw s.H) w J) (e x) (a.eval x)){k:List St->TV->Option R}{r:R}
  (hk:qmb X o.op e Hv k=some r):qq P U w0 J0 K N o s a w k r:=by
 unfold qmb at hk;split at hk
 ·rename_i cs v hp;have hC:=(bn hk).1
  replace hk:=(bn hk).2
  obtain⟨u,hrun,hv⟩:=jiw hX.fits hp hC hS he;exact qq.val (δ:=[]) hk hrun hr hv
 ·exfalso;unfold jx2 at hk;cases hb:Nat.ble X.kp.length Hv.length with
  |false=>rw[hb]at hk;cases hk
  |true=>
   rw[hb]at hk;cases hop:o.op<;>rw[hop]at hld hk<;>first|(cases hld;done)|(simp[jqf]at hk;done)
end
end Go.K
namespace Go.K
open Go.M
section
variable {R Rf : Type}
theorem iz{α β:Type}(c:Bool)(m:Option α)(f:α->Option β):al c (m.bind f)=(al c m).bind f:=by cases c<;>rfl
theorem fg{α β:Type}:∀(cs:List Bool) (m:Option α) (f:α->Option β),ckL cs (m.bind f)=(ckL cs m).bind f
 |[],m,f=>rfl
 |c::cs,m,f=>by simp only[ckL];rw[fg cs m f,iz]
theorem jf3(H:List TOb)(tg:Nat)(i:Int)(f:Nat)(new:List TV)(k:List St->Option R):q2l H tg i f new k=(q2l H tg i f new some).bind k:=by
 unfold q2l;split
 ·split
  ·split
   ·rw[<-iz];rfl
   ·rfl
  ·rfl
 ·rfl
theorem jro(X:Ctx Rf)(H:List TOb)(ty:TypeId)(its:List TypeId)(u:Ty)(xs:List u.den)(tg:Nat)(i:Int)(f:Nat)(v:TV)(k:List St->Option R):q84 X H ty its u xs tg i f v k=(q84 X H ty its u xs tg i f v some).bind k:=by
 unfold q84;split
 ·split
  ·cases(!Nat.beq _ tg&& !bt X.kp _&&(_||_)&&Nat.beq _ _)with
   |false=>rfl
   |true=>
    simp only[WQ];split
    ·rw[<-iz];rfl
    ·rfl
  ·rfl
 ·cases(_&&jku u&&Nat.beq f 0&&_)with
  |false=>rfl
  |true=>simp only[WQ];rw[<-iz];rfl
 ·split
  ·split
   ·rw[<-iz];rfl
   ·rfl
  ·rfl
 ·split
  ·rfl
  ·split
   ·split
    ·rw[<-iz];rfl
    ·rfl
   ·rfl
theorem cz{α β:Type}{c:Bool}{a b:Option β}{a' b' :Option α}{f:α->Option β}(h1:a=a'.bind f)(h2:b=b'.bind f):(bif c then a else b)=(bif c then a' else b').bind f:=by
 cases c
 ·exact h2
 ·exact h1
theorem jf2(X:Ctx Rf)(ti:TI)(H:List TOb)(tg:Nat)(i:Int)(f:Nat)(δ0:List St)(v:TV)(k:List St->Option R):q2k X ti H tg i f δ0 v k=(q2k X ti H tg i f δ0 v some).bind k:=by
 unfold q2k;split
 ·split
  ·rename_i δ _ _ new _;refine(jf3 _ _ _ _ _ _).trans ?_;rw[jf3 (k:=fun δ' =>some (δ0++(δ++δ')))];rw[Hr];rfl
  ·rfl
 ·rfl
theorem jf4(X:Ctx Rf)(ti:TI)(p v:TV)(H:List TOb)(k:List St->Option R):q2m X ti p v H k=(q2m X ti p v H some).bind k:=by
 unfold q2m;split
 ·split
  ·split
   ·split
    ·refine cz ?_ rfl;split<;>rfl
    ·rfl
   ·rfl
  ·split
   ·exact jf2 ..
   ·exact cz (jro ..) (cz (jf2 ..) rfl)
   ·split
    ·exact cz (by rw[<-fg];rfl) rfl
    ·rfl
   ·split
    ·exact cz (by rw[<-fg];rfl) rfl
    ·rfl
  ·rfl
 ·split
  ·refine cz ?_ rfl;split
   ·split
    ·split
     ·split
      ·refine cz ?_ rfl;split
       ·rw[<-iz];rfl
       ·rfl
      ·rfl
     ·rfl
    ·rfl
   ·rfl
  ·rfl
 ·rfl
abbrev rt:List St->TV->Option (List St×TV):=fun δ v=>some (δ,v)
abbrev un(k:List St->TV->Option R):List St×TV->Option R:=fun p=>k p.1 p.2
theorem jmr(X:Ctx Rf)(el:TypeId)(u:Ty)(ei:TI)(d:TV)(H:List TOb)(fr' :Bool)(ys:List u.den)(k:List St->TV->Option R):jui X el u ei d H fr' ys k=(jui X el u ei d H fr' ys rt).bind (un k):=by
 unfold jui;split
 ·rw[<-iz];rfl
 ·rw[<-iz];rfl
 ·split
  ·split
   ·refine cz ?_ rfl;split
    ·rw[<-iz];rfl
    ·exact cz (by rw[<-iz];rfl) rfl
    ·rfl
   ·rfl
  ·rfl
 ·split
  ·split
   ·exact cz (by rw[<-iz];rfl) rfl
   ·rfl
  ·rfl
 ·split
  ·split
   ·split
    ·refine cz ?_ rfl;split
     ·rw[<-iz];rfl
     ·rfl
    ·rfl
   ·rfl
  ·split
   ·exact cz (by rw[<-fg];rfl) rfl
   ·rfl
  ·rfl
 ·rfl
theorem jms(X:Ctx Rf)(el:TypeId)(u:Ty)(ei:TI)(d:TV)(H:List TOb)(t2:Option Nat)(x:u.den)(k:List St->TV->Option R):jjv X el u ei d H t2 x k=(jjv X el u ei d H t2 x rt).bind (un k):=by
 unfold jjv;split
 ·split
  ·rw[<-iz];rfl
  ·rw[<-iz];rfl
 ·split
  ·split
   ·refine cz ?_ rfl;split
    ·rw[<-iz];rfl
    ·exact cz (by rw[<-iz];rfl) rfl
   ·rfl
  ·rfl
 ·rfl
theorem qqz(X:Ctx Rf)(el:TypeId)(u:Ty)(ei:TI)(d x:TV)(H:List TOb)(k:List St->TV->Option R):qqy X el u ei d x H k=(qqy X el u ei d x H rt).bind (un k):=by
 unfold qqy;split
 ·rename_i δ _ _ _;refine(jmr _ _ _ _ _ _ _ _ _).trans ?_;rw[jmr (k:=fun δ' v=>rt (δ++δ') v)];rw[Hr];rfl
 ·rfl
theorem jmt(X:Ctx Rf)(el:TypeId)(u:Ty)(ei:TI)(d x:TV)(H:List TOb)(k:List St->TV->Option R):jjw X el u ei d x H k=(jjw X el u ei d x H rt).bind (un k):=by
 unfold jjw;split
 ·split
  ·refine cz ?_ (qqz ..);split
   ·exact jms ..
   ·exact jms ..
   ·exact qqz ..
  ·exact qqz ..
 ·exact qqz ..
theorem juj(X:Ctx Rf)(el:TypeId)(u:Ty)(ei:TI)(d x:TV)(H:List TOb)(k:List St->TV->Option R)(f:TV->TV):jjw X el u ei d x H (fun δ v=>k δ (f v))=(jjw X el u ei d x H (fun δ v=>rt δ (f v))).bind (un k):=by
 rw[jmt (k:=fun δ v=>k δ (f v)),jmt (k:=fun δ v=>rt δ (f v)),Hr];rfl
theorem qyc(X:Ctx Rf)(args:List TV)(H:List TOb)(k:List St->TV->Option R):∀(l:List Mdl),q3j X l args H k=(q3j X l args H rt).bind (un k)
 |[]=>rfl
 |M::l=>by
  unfold q3j;split
  ·refine cz ?_ rfl;cases M.m _ with
   |none=>rfl
   |some b=>
    show M.cs b _=Option.bind (M.cs b _) _;rw[<-M.csn];exact W0 (M.cs b) (funext fun b=>by rw[<-fg];rfl)
  ·exact qyc X args H k l
theorem jh4(args:List TV)(k:List St->TV->Option R):∀(l:List Mdl),q9g l args k=(q9g l args rt).bind (un k)
 |[]=>rfl
 |M::l=>by
  unfold q9g;split
  ·rename_i a hd;cases M.m a with
   |none=>rfl
   |some b=>
    show(match M.outs a b with|[]=>k [] (M.res a b).dw|_=>none)=Option.bind (match M.outs a b with|[]=>rt [] (M.res a b).dw|_=>none) (un k);cases M.outs a b<;>rfl
  ·exact jh4 args k l
theorem qyd(X:Ctx Rf)(args:List TV)(H:List TOb)(k:List St->TV->Option R)(l:List Mdl):qzr X l args H k=(qzr X l args H rt).bind (un k):=by
 unfold qzr;cases jkq l args H with
 |true=>exact qyc X args H k l
 |false=>
  cases X.dt with
  |false=>exact jh4 args k l
  |true=>
   simp only[WQ,W9];unfold jxk;split
   ·rename_i δ _;rw[qyc (k:=fun δ' v=>k (δ++δ') v),qyc (k:=fun δ' v=>rt (δ++δ') v),Hr];rfl
   ·rfl
theorem jd3(X:Ctx Rf)(t:TypeId)(H:List TOb)(k:List St->TV->Option R):q1q X t H k=(q1q X t H rt).bind (un k):=by
 unfold q1q;split
 ·split
  ·split<;>rfl
  ·rfl
  ·rfl
 ·rfl
theorem jvs(X:Ctx Rf)(ki:TI)(H:List TOb)(tg:Nat)(ku u:Ty)(ety:TypeId)(es:List (ku.den×List u.den))(h:Option Nat)(key x:TV)(k:List St->TV->Option R):jio X ki H tg ku u ety es h key x k=(jio X ki H tg ku u ety es h key x rt).bind (un k):=by
 unfold jio;split
 ·refine cz ?_ rfl;split
  ·exact cz (by rw[<-iz];rfl) rfl
  ·split
   ·split
    ·exact cz (by rw[<-iz];rfl) rfl
    ·rfl
   ·rfl
  ·rfl
 ·rfl
theorem jvr(X:Ctx Rf)(t:TypeId)(m key:TV)(H:List TOb)(k:List St->TV->Option R):jim X t m key H k=(jim X t m key H rt).bind (un k):=by
 unfold jim;split
 ·split
  ·split
   ·split
    ·exact cz (by split<;>rfl) rfl
    ·rfl
   ·rfl
  ·rfl
 ·rfl
theorem jip(X:Ctx Rf)(t:TypeId)(m key x:TV)(H:List TOb)(k:List St->TV->Option R):jd4 X t m key x H k=(jd4 X t m key x H rt).bind (un k):=by
 unfold jd4;split
 ·split
  ·split
   ·split
    ·exact cz rfl rfl
    ·rfl
   ·exact jvs ..
   ·rfl
  ·rfl
 ·rfl
theorem jvo(X:Ctx Rf)(t:TypeId)(m key:TV)(H:List TOb)(k:List St->TV->Option R):jil X t m key H k=(jil X t m key H rt).bind (un k):=by
 unfold jil;split
 ·split
  ·split
   ·split
    ·exact cz rfl rfl
    ·rfl
   ·rfl
  ·rfl
 ·rfl
theorem jh5(u:Ty)(d:TV)(H:List TOb)(fr' :Bool)(ys:List u.den)(k:List St->TV->Option R):jna u d H fr' ys k=(jna u d H fr' ys rt).bind (un k):=by
 unfold jna;split
 ·split
  ·split
   ·rfl
   ·rfl
  ·rfl
 ·split
  ·split
   ·rfl
   ·rfl
  ·rfl
 ·rfl
theorem juy(X:Ctx Rf)(u:Ty)(d x:TV)(H:List TOb)(k:List St->TV->Option R):jh6 X u d x H k=(jh6 X u d x H rt).bind (un k):=by
 unfold jh6;split
 ·rename_i δ _ _ _;refine(jh5 _ _ _ _ _ _).trans ?_;rw[jh5 (k:=fun δ' v=>rt (δ++δ') v)];rw[Hr];rfl
 ·rfl
theorem jqa(u:Ty)(d:TV)(H:List TOb)(k:List St->TV->Option R):q66 u d H k=(q66 u d H rt).bind (un k):=by
 unfold q66;split
 ·split
  ·split
   ·rfl
   ·rfl
  ·rfl
 ·split
  ·split
   ·rfl
   ·rfl
  ·rfl
 ·rfl
theorem jxa(X:Ctx Rf)(t t' :TypeId)(d x:TV)(H:List TOb)(k:List St->TV->Option R):juk X t t' d x H k=(juk X t t' d x H rt).bind (un k):=by
 unfold juk;split
 ·split
  ·split
   ·refine cz ?_ rfl;rw[<-fg];rfl
   ·rfl
  ·rfl
 ·rfl
theorem jx3(X:Ctx Rf)(op:Op)(e:Operand->TV)(H:List TOb)(k:List St->TV->Option R):jqf X op e H k=(jqf X op e H rt).bind (un k):=by
 unfold jqf;split
 ·split
  ·exact cz rfl rfl
  ·rfl
 ·split
  ·split
   ·rw[<-fg];rfl
   ·rfl
  ·rfl
 ·split
  ·rw[jf4 (k:=fun δ=>k δ TV.any),jf4 (k:=fun δ=>rt δ TV.any),<-fg];congr 1;rw[Hr];rfl
  ·rfl
 ·split
  ·split
   ·split
    ·rw[<-fg];rfl
    ·rfl
   ·rfl
  ·rfl
 ·split
  ·split
   ·refine cz ?_ rfl;split
    ·split
     ·rw[<-fg];rfl
     ·rfl
    ·rfl
   ·rfl
  ·rfl
 ·exact jd3 ..
 ·split
  ·rw[<-fg];exact W0 _ (jd3 ..)
  ·rfl
 ·rw[<-fg];exact W0 _ (jvr ..)
 ·rw[<-fg];exact W0 _ (jip ..)
 ·rw[<-fg];exact W0 _ (jip ..)
 ·split
  ·split
   ·rw[<-fg];exact W0 _ (juy ..)
   ·rfl
  ·rfl
 ·split
  ·split
   ·rw[<-fg];exact W0 _ (jqa ..)
   ·rfl
  ·rfl
 ·rw[<-fg];exact W0 _ (jvo ..)
 ·refine cz ?_ (jxa ..);split
  ·split
   ·rw[<-fg];exact W0 _ (juj X _ _ _ _ _ H k (fun v=>bif _ then .nl (some false) v else v))
   ·rfl
  ·rfl
 ·split
  ·refine cz ?_ ?_
   ·rw[qyd,<-fg]
   ·split
    ·exact cz (by rw[qyd,<-fg]) rfl
    ·rfl
  ·rfl
 ·split
  ·refine cz ?_ rfl;split
   ·rw[qyd,<-fg]
   ·split
    ·rw[qyd,<-fg]
    ·rfl
   ·rfl
  ·rfl
 ·rfl
theorem j0m(X:Ctx Rf)(op:Op)(e:Operand->TV)(H:List TOb)(k:List St->TV->Option R):qmb X op e H k=(qmb X op e H rt).bind (un k):=by
 unfold qmb;split
 ·rw[<-fg];rfl
 ·exact cz (jx3 ..) rfl
theorem jja{X:Ctx Rf}{op:Op}{e:Operand->TV}{H:List TOb}{k:List St->TV->Option R}{r:R}(h:qmb X op e H k=some r):∃δ v,k δ v=some r/\qmb X op e H rt=some (δ,v):=by
 rw[j0m]at h;cases hq:qmb X op e H rt with
 |none=>rw[hq]at h;cases h
 |some p=>rw[hq]at h;exact⟨p.1,p.2,h,rfl⟩
end
end Go.K
namespace Go.K
open Go.M Go.RowKit
def q7t(ops:List Oper)(i:Nat):List Nat:=match ops[i]? with|some o=>(o.after.toList.filter (Region.binds .any)).map (·.on)|none=>[]
def qig(D:Nat->Bool):Nat->Nat
 |0=>0
 |N+1=>qig D N+if D N=true then 0 else 1
def qn(D:Nat->Bool)(i:Nat):Nat->Bool:=fun k=>if k=i then true else D k
theorem jrw(D:Nat->Bool)(i:Nat)(hi:D i=false):∀N,i<N->qig (qn D i) N+1=qig D N:=by
 have low:∀N,N<=i->qig (qn D i) N=qig D N:=by
  intro N
  induction N with
  |zero=>intro _;rfl
  |succ N ih=>intro h;simp only[qig,ih (show N<=i by omega),qn,show N≠i by omega,KI]
 intro N
 induction N with
 |zero=>intro h;omega
 |succ N ih=>
  intro h;simp only[qig];by_cases he:N=i
  ·subst he;rw[low N (Wg _)];simp[qn,hi]
  ·have e:qn D i N=D N:=by simp[qn,he]
   rw[e];have:=ih (by omega);omega
theorem jpj(D:Nat->Bool):∀N,qig D N=0->∀i,i<N->D i=true:=by
 intro N
 induction N with
 |zero=>intro _ i hi;omega
 |succ N ih=>
  intro h i hi;simp only[qig]at h;by_cases hN:D N=true
  ·by_cases he:i=N
   ·subst he;exact hN
   ·exact ih (by omega) i (by omega)
  ·rw[if_neg hN]at h;omega
theorem jgl(l:Array Bool)(i k:Nat)(hi:i<l.size)(d:Bool):(l.setIfInBounds i true).getD k d=if k=i then true else l.getD k d:=by
 by_cases h:k=i
 ·subst h;simp[hi]
 ·simp only[h,KI,Kz];rw[Hf (Ko h)]
def q6u(l:List Oper)(D:Nat->Bool):Prop:=∀i,D i=true->∀k∈q7t l i,D k=true
theorem jx0{P:Program}(hmix:P.follows .mixedOrders=true){id:Nat}{l:List Oper}(hback:∀i k,k∈q7t l i->k<i){Q:Exit->Act->World->Prop}(Inv:(Nat->Bool)->Act->World->Prop)
  (hstep:∀D i o a w,q6u l D->(∀k,l.length<=k->D k=false)->l[i]? =some o->D i=false->(∀k∈q7t l i,D k=true)->Inv D a w->∀KK:Act->World->Prop,(∀a' w',Inv (qn D i) a' w' ->KK a' w')->
   if Region.wanted o (yielded l.toArray a.tmps)=true then o.wp P a w KK Q else KK (a.put o.dst undef) w)
  (hend:∀D a w,(∀i,i<l.length->D i=true)->(∀k,l.length<=k->D k=false)->Inv D a w->Q .normal a w) {a:Act} {w:World} (h0:Inv (fun _=>false) a {w with drawn:=w.drawn+1}):(Code.region id l.toArray true).wp P Q a w:=by
 refine wp_region_any hmix ?_;have edge:∀(i:Nat) (o:Oper) (e:Edge),l[i]? =some o->e∈o.after->Region.binds .any e=true->e.on∈q7t l i:=by
  intro i o e ho he hb;simp only[q7t,ho];exact WG.2 ⟨e,Kf.2 ⟨by simpa using he,hb⟩,rfl⟩
 have edge' :∀(i:Nat) (o:Oper) (k:Nat),l[i]? =some o->k∈q7t l i->∃e∈o.after,Region.binds .any e=true/\e.on=k:=by
  intro i o k ho hk;simp only[q7t,ho]at hk;obtain⟨e,he,rfl⟩:=WG.1 hk;obtain⟨h1,h2⟩:=Kf.1 he;exact⟨e,by simpa using h1,h2,rfl⟩
 suffices H:∀(fuel:Nat) (listed:Array Bool) (a:Act) (w:World),listed.size=l.length->q6u l (fun k=>listed.getD k false)->qig (fun k=>listed.getD k false) l.length<=fuel->Inv (fun k=>listed.getD k false) a w->wpAny P .any l.toArray Q fuel listed a w by
  have hfalse:(fun k=>(Array.replicate l.toArray.size false).getD k false)=fun _=>false:=by
   funext i;rw[Kz];by_cases hi:i<l.length
   ·simp[hi]
   ·rw[KV (by simpa using hi)];rfl
  refine H l.toArray.size (Array.replicate l.toArray.size false) a _ (by simp) (by rw[hfalse];exact fun i hi=>by cases hi) ?_ (by rw[hfalse];exact h0);have:∀(D:Nat->Bool) N,qig D N<=N:=by
   intro D N
   induction N with
   |zero=>exact Wg _
   |succ N ih=>simp only[qig];split<;>omega
  simpa using this _ l.length
 have hbeyond:∀(listed:Array Bool),listed.size=l.length->∀k,l.length<=k->listed.getD k false=false:=by
  intro listed hsz k hk;rw[Kz,KV (by omega)];rfl
 have hfull:∀(listed:Array Bool),listed.size=l.length->Region.ready .any l.toArray listed=[]->∀i,i<l.length->listed.getD i false=true:=by
  intro listed hsz hnil i
  induction i using Nat.strongRecOn with
  |_ i ih=>
   intro hi;cases hb:listed.getD i false with
   |true=>rfl
   |false=>
    have:i∈Region.ready .any l.toArray listed:=by
     refine mem_ready.2 ⟨?_,l[i],by simp[hi],fun e he hbd=> ?_⟩
     ·rw[Kz,Ht (by omega)]at hb⊢;exact hb
     ·have:=hback i e.on (edge i l[i] e (by simp[hi]) he hbd);exact ih e.on this (by omega)
    rw[hnil]at this;cases this
 intro fuel
 induction fuel with
 |zero=>
  intro listed a w hsz hcl hund hinv;have hall:=jpj _ l.length (Nat.le_zero.1 hund);refine⟨?_,hend _ a w hall (hbeyond listed hsz) hinv⟩;apply List.eq_nil_iff_forall_not_mem.2;intro i hi;obtain⟨h1,o,ho,_⟩:=mem_ready.1 hi;have hlt:i<l.length:=by
   have:=(W4.1 ho).1;simpa using this
  have:=hall i hlt;rw[Kz,Ht (by omega)]at this h1;simp only[WX]at this h1;rw[this]at h1;cases h1
 |succ fuel ih=>
  intro listed a w hsz hcl hund hinv;refine⟨fun hnil=>hend _ a w (hfull listed hsz hnil) (hbeyond listed hsz) hinv,fun i hi=> ?_⟩;obtain⟨h1,o,ho,hon⟩:=mem_ready.1 hi;have hil:i<l.length:=by
   have:=(W4.1 ho).1;simpa using this
  have ho' :l[i]? =some o:=by simpa using ho
  have hdi:listed.getD i false=false:=by
   rw[Kz,Ht (by omega)]at h1⊢;exact h1
  have hon' :∀k∈q7t l i,listed.getD k false=true:=by
   intro k hk;obtain⟨e,he,hb,rfl⟩:=edge' i o k ho' hk;exact hon e he hb
  have hset:(fun k=>(listed.setIfInBounds i true).getD k false)=qn (fun k=>listed.getD k false) i:=by
   funext k;exact jgl listed i k (by omega) false
  unfold wpOp;simp only[ho];have:=hstep (fun k=>listed.getD k false) i o a w hcl (hbeyond listed hsz) ho' hdi hon' hinv (wpAny P .any l.toArray Q fuel (listed.setIfInBounds i true)) (fun a' w' hi' =>by
   refine ih _ a' w' (by simpa using hsz) ?_ ?_ (by rw[hset];exact hi')
   ·rw[hset];intro j hj k hk;simp only[qn]at hj⊢;split
    ·rfl
    ·split at hj
     ·rename_i e;subst e;exact hon' k hk
     ·exact hcl j hj k hk
   ·rw[hset];have:=jrw (fun k=>listed.getD k false) i hdi l.length hil;omega)
  split
  ·rename_i hw;rw[if_pos hw]at this;exact .inl this
  ·rename_i hw;rw[if_neg hw]at this;exact this
end Go.K
namespace Go.K
open Go.M Go.RowKit
def onN(o:Oper):List Nat:=(o.after.toList.filter (Region.binds .any)).map (·.on)
def dN(o:Oper):Nat:=match o.dst with|some d=>d+1|none=>0
def usN(ops:List Oper)(o:Oper):List Nat:=(o.op.operands.toList.filterMap fun| .tmp t=>some t|_=>none)++(match o.guard with|some g=>(q3r ops g.1).toList|none=>[])
def wu(k:Nat):List Nat->Bool
 |[]=>false
 |a::l=>bif Nat.beq a k then true else wu k l
def jii(i:Nat):List Nat->Bool
 |[]=>true
 |k::l=>bif Nat.blt k i then jii i l else false
def inW(bv:List Nat)(j i:Nat):Bool:=Nat.testBit (bv.getD i 0) j
def jak(bv:List Nat):List Nat->Nat
 |[]=>0
 |j::l=>Nat.lor (Nat.lor (Nat.shiftLeft 1 j) (bv.getD j 0)) (jak bv l)
def q6c(bv:List Nat):Nat->List Oper->Bool
 |_,[]=>true
 |i,o::l=>bif Nat.beq (bv.getD i 0) (jak bv (onN o))&&jii i (onN o)then q6c bv (i+1) l else false
def q3k(ops:List Oper)(o o' :Oper):Bool:=
 (match o.dst with|some d=>wu d (usN ops o')||Nat.beq (d+1) (dN o')|none=>false)||(match o'.dst with|some d=>wu d (usN ops o)|none=>false)
def qh6:Op->Bool
 | .move _=>true
 | .assign _=>true
 | .extract _ _=>true
 |_=>false
def jtd(ops:List Oper)(bv rs:List Nat)(i:Nat)(o:Oper)(k:Nat)(o' :Oper):Bool:=
 match wu i rs,wu k rs with
 |false,_=> !q3k ops o o' ||inW bv i k
 |true,true=>inW bv i k||(!q3k ops o o' &&(qh6 o.op||qh6 o'.op))
 |true,false=> !q3k ops o o'
def jld(ops:List Oper)(bv rs:List Nat)(i:Nat)(o:Oper):Nat->List Oper->Bool
 |_,[]=>true
 |k,o' ::l=>bif jtd ops bv rs i o k o' then jld ops bv rs i o (k+1) l else false
def jci(ops:List Oper)(bv rs:List Nat):Nat->List Oper->Bool
 |_,[]=>true
 |i,o::l=>bif jld ops bv rs i o (i+1) l then jci ops bv rs (i+1) l else false
def jxz(ops:List Oper)(bv rs:List Nat):Bool:=q6c bv 0 ops&&jci ops bv rs 0 ops
mutual
def TV.all(p:TG->Bool):TV->Bool
 | .own T=>p T
 | .ownS T _ _=>p T
 | .ptr T _ _=>p T
 | .mp T=>p T
 | .fn _ l=>TV.allL p l
 | .agg l=>TV.allL p l
 | .tup l=>TV.allL p l
 | .cond _ a=>TV.all p a
 | .nl _ a=>TV.all p a
 |_=>true
def TV.allL(p:TG->Bool):List TV->Bool
 |[]=>true
 |v::l=>TV.all p v&&TV.allL p l
end
def TOb.all(p:TG->Bool):TOb->Bool
 | .cs _ _ _ l=>TV.allL p l
 |_=>true
def jjt(p:TG->Bool):List TOb->Bool
 |[]=>true
 |o::l=>o.all p&&jjt p l
def Ac.isId:Ac->Bool
 | .id=>true
 |_=>false
def jnw(z:List Nat):TG->Ac
 | .o t=>bif wu t z then .kill else .id
 | .r t _ _=>bif wu t z then .kill else .id
def qo0(z:List Nat)(v:TV):TV:=match z with|[]=>v|a::z=>v.sb (jnw (a::z))
def jan(z:List Nat):Nat->List TOb->List TOb
 |_,[]=>[]
 |t,o::l=>(bif wu t z then .gone else o)::jan z (t+1) l
def qx9(z:List Nat)(H:List TOb):List TOb:=match z with|[]=>H|a::z=>jan (a::z) 0 H
structure En where
 i : Nat
 dst : Option Tmp
 xs : List TV
 Hv : List TOb
 n : Nat
 news : List TOb
 v : TV
 wk : Bool
def qh7:Nat->List St->Option (List TOb)
 |_,[]=>some []
 |n, .new t o::l=>bif Nat.beq t n then(match qh7 (n+1) l with|some r=>some (o::r)|none=>none)else none
 |_,_=>none
def places:Nat->Nat->List Nat
 |_,0=>[]
 |n,k+1=>n::places (n+1) k
def zR(bv:List Nat)(i:Nat):List En->List Nat
 |[]=>[]
 |e::l=>bif inW bv e.i i then zR bv i l else places e.n e.news.length++zR bv i l
def j0c(bv:List Nat)(i:Nat):List Nat->Bool
 |[]=>false
 |r::l=>bif inW bv i r then j0c bv i l else true
def zA(bv rs τ:List Nat)(i:Nat)(recs:List En):List Nat:=(bif j0c bv i rs then τ else [])++zR bv i recs
def qvb:List Bool->Bool
 |[]=>true
 |c::l=>c&&qvb l
def j63:List TV->Bool
 |[]=>true
 | .any::l=>j63 l
 |_=>false
def jxm:TV->TV->Option (List Bool)
 | .any,_=>some []
 | .int k n, .int k' m=>if k=k' then some [decide (n=m)]else none
 | .bool b, .bool c=>some [b==c]
 | .own (.o t), .own (.o t')=>bif Nat.beq t t' then some []else none
 |_,_=>none
def q64:List TV->List TV->Option (List Bool)
 |[],_=>some []
 |v::l,[]=>match v with| .any=>q64 l []|_=>none
 |v::l,v' ::l' =>
  match jxm v v' with
  |some a=>match q64 l l' with|some b=>some (a++b)|none=>none
  |none=>none
def jz8(wk:Bool)(ob o:TOb):Option (List Bool):=
 match ob with
 | .gone=>some []
 | .cs ty sz n cs=>
  bif wk&&Nat.blt 0 sz then
   match o with
   | .cs ty' sz' n' cs' =>bif Nat.beq ty ty' &&Nat.beq sz sz' &&Nat.beq n n' then q64 cs cs' else none
   | .arr ty' _ _ u xs=>bif Nat.beq ty ty' &&Nat.beq sz u.sz&&j63 cs then some [decide (n=xs.length)]else none
   |_=>none
  else none
 |_=>none
def jtv(wk:Bool)(ob o:TOb):Bool:=match jz8 wk ob o with|some l=>qvb l|none=>false
def qkl(e:En):St->Bool
 | .sb θ=>TV.allL (fun T=>(θ T).isId) e.xs&&jjt (fun T=>(θ T).isId) e.Hv&&jjt (fun T=>(θ T).isId) e.news&&e.v.all (fun T=>(θ T).isId)
 | .set t o=>(Nat.blt t e.n||Nat.ble (e.n+e.news.length) t)&&jtv e.wk (e.Hv.getD t .gone) o
 | .new t _=>Nat.ble (e.n+e.news.length) t&&Nat.ble e.Hv.length t
def yf(e:En):List St->Bool
 |[]=>true
 |x::l=>qkl e x&&yf e l
def qz2(bv:List Nat)(i:Nat)(δ:List St):List En->Bool
 |[]=>true
 |e::l=>(inW bv e.i i||yf e δ)&&qz2 bv i δ l
def q4t(e:En):St->Option (List Bool)
 | .sb θ=>bif TV.allL (fun T=>(θ T).isId) e.xs&&jjt (fun T=>(θ T).isId) e.Hv&&jjt (fun T=>(θ T).isId) e.news&&e.v.all (fun T=>(θ T).isId)then some []else none
 | .set t o=>bif Nat.blt t e.n||Nat.ble (e.n+e.news.length) t then jz8 e.wk (e.Hv.getD t .gone) o else none
 | .new t _=>bif Nat.ble (e.n+e.news.length) t&&Nat.ble e.Hv.length t then some []else none
def q4u(e:En):List St->Option (List Bool)
 |[]=>some []
 |x::l=>
  match q4t e x with
  |some a=>match q4u e l with|some b=>some (a++b)|none=>none
  |none=>none
def jea(bv:List Nat)(i:Nat)(δ:List St):List En->Option (List Bool)
 |[]=>some []
 |e::l=>
  bif inW bv e.i i then jea bv i δ l
  else
   match q4u e δ with
   |some a=>match jea bv i δ l with|some b=>some (a++b)|none=>none
   |none=>none
theorem q3b:∀{a b:List Bool},qvb (a++b)=true->qvb a=true/\qvb b=true
 |[],_,h=>⟨rfl,h⟩
 |c::a,b,h=>by
  simp only[Hu,qvb,Wc]at h;obtain⟨h1,h2⟩:=q3b h.2;exact⟨by simp[qvb,h.1,h1],h2⟩
theorem jq5{e:En}{x:St}{l:List Bool}(h:q4t e x=some l)(hl:qvb l=true):qkl e x=true:=by
 cases x with
 |sb θ=>
  simp only[q4t]at h;exact(ai h).1
 |set t o=>
  simp only[q4t]at h;obtain⟨h1,h2⟩:=ai h;simp only[qkl,h1,Hq,jtv,h2,hl]
 |new t o=>
  simp only[q4t]at h;exact(ai h).1
theorem q9w{e:En}:∀{δ:List St} {l:List Bool},q4u e δ=some l->qvb l=true->yf e δ=true
 |[],_,_,_=>rfl
 |x::δ,l,h,hl=>by
  simp only[q4u]at h;split at h
  ·rename_i a ha;split at h
   ·rename_i b hb;cases h;obtain⟨h1,h2⟩:=q3b hl;simp only[yf,jq5 ha h1,q9w hb h2,KT]
   ·cases h
  ·cases h
theorem q7s{bv:List Nat}{i:Nat}{δ:List St}:∀{recs:List En} {l:List Bool},jea bv i δ recs=some l->qvb l=true->qz2 bv i δ recs=true
 |[],_,_,_=>rfl
 |e::recs,l,h,hl=>by
  simp only[jea]at h;cases hw:inW bv e.i i with
  |true=>
   rw[hw]at h;simp only[qz2,hw,Bool.true_or,Hq];exact q7s h hl
  |false=>
   rw[hw]at h;simp only[W9]at h;split at h
   ·rename_i a ha;split at h
    ·rename_i b hb;cases h;obtain⟨h1,h2⟩:=q3b hl;simp only[qz2,q9w ha h1,q7s hb h2,Bool.or_true,KT]
    ·cases h
   ·cases h
def jbd(S:List (Nat×TV))(d:Option Tmp)(v:TV):List (Nat×TV):=match d with|some d=>(d,v)::S|none=>S
section
variable {R Rf : Type}
def j4g:Op->Bool
 | .buildSlice .. =>true
 | .makeSlice .. =>true
 | .alloc .. =>true
 | .box .. =>true
 |_=>false
def qst:Nat->List TOb
 |0=>[]
 |n+1=> .gone::qst n
theorem qfy:∀n,(qst n).length=n
 |0=>rfl
 |n+1=>by simp[qst,qfy n]
theorem jdl:∀{n t:Nat} {ob:TOb},(qst n)[t]? =some ob->ob= .gone
 |0,t,ob,h=>by simp[qst]at h
 |n+1,0,ob,h=>by simpa[qst]using h.symm
 |n+1,t+1,ob,h=>jdl (n:=n) (t:=t) (by simpa[qst]using h)
def qo8:Nat->Nat->List TV->List TV
 |_,_,[]=>[]
 |k+1,m,_::l=> .any::qo8 k m l
 |0,m+1,c::l=>c::qo8 0 m l
 |0,0,_::l=> .any::qo8 0 0 l
theorem q4h:∀(k m:Nat) (l:List TV) (i:Nat),(qo8 k m l).getD i .any= .any\/(qo8 k m l).getD i .any=l.getD i .any
 |_,_,[],i=>by simp[qo8]
 |k+1,m,_::l,0=>by simp[qo8]
 |k+1,m,_::l,i+1=>by simpa[qo8]using q4h k m l i
 |0,m+1,c::l,0=>by simp[qo8]
 |0,m+1,c::l,i+1=>by simpa[qo8]using q4h 0 m l i
 |0,0,_::l,0=>by simp[qo8]
 |0,0,_::l,i+1=>by simpa[qo8]using q4h 0 0 l i
structure HvW (op : Op) (Hv H : List TOb) : Prop where
 at_ : ∀ (t : Nat) (ob : TOb), Hv[t]? = some ob -> ob = .gone \/ H[t]? = some ob \/ (zd op = true /\ ∃ ob', H[t]? = some ob' /\ CsW ob ob')
 len : Hv.length <= H.length
def jy3(sz:Nat)(x:TV)(Hv:List TOb):List TOb:=
 match x with
 | .ptr (.o tg) i f=>
  match Hv[tg]? with
  |some (.cs ty z n cs)=>bif Nat.blt 0 z then qst tg++[.cs ty z n (qo8 (i.toNat*z+f) sz cs)]else Hv
  |_=>Hv
 |_=>Hv
def j96(x:TV)(Hv:List TOb):List TOb:=
 match x with
 | .own (.o tg)=>
  match Hv[tg]? with
  |some (.cs ty z n _)=>bif Nat.blt 0 z then qst tg++[.cs ty z n []]else Hv
  |some (.arr ty _ _ u xs)=>bif Nat.blt 0 u.sz then qst tg++[.cs ty u.sz xs.length []]else Hv
  |_=>Hv
 |_=>Hv
def hvA(X:Ctx Rf)(e:Operand->TV)(op:Op)(Hv:List TOb):List TOb:=
 match pvT X.wr X.tt [] e op with
 |some _=>[]
 |none=>
  match op with
  | .load t x=>(match X.tt t with|some ti=>jy3 ti.sz (e x).gt Hv|none=>Hv)
  | .indexAddr _ x _=>j96 (e x).gt Hv
  |op=>bif j4g op then qst Hv.length else Hv
theorem jzn(op:Op)(ho:zd op=true){tg:Nat}{Hv:List TOb}{ob ob' :TOb}(hq:Hv[tg]? =some ob')(hc:CsW ob ob'):HvW op (qst tg++[ob]) Hv:=by
 have hlt:tg<Hv.length:=(Wh.1 hq).1;refine⟨fun t ob1 h=> ?_,by simp[qfy];omega⟩;rcases Nat.lt_trichotomy t tg with h1|h1|h1
 ·rw[Wo (by rw[qfy];exact h1)]at h;exact .inl (jdl h)
 ·subst h1;rw[Wu (by rw[qfy];exact Wg _),qfy,HQ]at h;simp only[List.getElem?_cons_zero,Wb]at h;subst h;exact .inr (.inr ⟨ho,_,hq,hc⟩)
 ·rw[Wp (by simp[qfy];omega)]at h;cases h
theorem j2w(op:Op)(ho:zd op=true)(sz:Nat)(x:TV)(Hv:List TOb):HvW op (jy3 sz x Hv) Hv:=by
 unfold jy3;split
 ·rename_i tg i f;split
  ·rename_i ty z n cs hq;cases hz:Nat.blt 0 z with
   |false=>exact⟨fun t ob h=> .inr (.inl h),Wg _⟩
   |true=>exact jzn op ho hq ⟨ty,z,n,_,rfl,cm hz, .inl ⟨cs,rfl,q4h _ _ _⟩⟩
  ·exact⟨fun t ob h=> .inr (.inl h),Wg _⟩
 ·exact⟨fun t ob h=> .inr (.inl h),Wg _⟩
theorem j97(op:Op)(ho:zd op=true)(x:TV)(Hv:List TOb):HvW op (j96 x Hv) Hv:=by
 unfold j96;split
 ·rename_i tg;split
  ·rename_i ty z n cs hq;cases hz:Nat.blt 0 z with
   |false=>exact⟨fun t ob h=> .inr (.inl h),Wg _⟩
   |true=>exact jzn op ho hq ⟨ty,z,n,[],rfl,cm hz, .inl ⟨cs,rfl,fun i=> .inl rfl⟩⟩
  ·rename_i ty md its u xs hq;cases hz:Nat.blt 0 u.sz with
   |false=>exact⟨fun t ob h=> .inr (.inl h),Wg _⟩
   |true=>exact jzn op ho hq ⟨ty,u.sz,xs.length,[],rfl,cm hz, .inr ⟨md,its,u,xs,rfl,rfl,rfl,fun i=>rfl⟩⟩
  ·exact⟨fun t ob h=> .inr (.inl h),Wg _⟩
 ·exact⟨fun t ob h=> .inr (.inl h),Wg _⟩
theorem zcw(X:Ctx Rf)(e:Operand->TV)(op:Op)(Hv:List TOb):HvW op (hvA X e op Hv) Hv:=by
 unfold hvA;split
 ·exact⟨fun t ob h=>by simp at h,W7 _⟩
 ·split
  ·split
   ·exact j2w _ rfl _ _ _
   ·exact⟨fun t ob h=> .inr (.inl h),Wg _⟩
  ·exact j97 _ rfl _ _
  ·cases j4g op
   ·exact⟨fun t ob h=> .inr (.inl h),Wg _⟩
   ·exact⟨fun t ob h=> .inl (jdl h),by simp[qfy]⟩
def opA(X:Ctx Rf)(bv rs τ:List Nat)(i:Nat)(o:Oper)(S:List (Nat×TV))(H:List TOb)(recs:List En)(k:List (Nat×TV)->List TOb->List En->Option R):Option R:=
 qmb X o.op (fun x=>qo0 (zR bv i recs) (evT X.N S x)) (hvA X (fun x=>qo0 (zR bv i recs) (evT X.N S x)) o.op (qx9 (zA bv rs τ i recs) H)) (fun δ v=>
  match qh7 H.length δ with
  |some obs=>k (jbd S o.dst v) (H++obs) (⟨i,o.dst,o.op.operands.toList.map (fun x=>qo0 (zR bv i recs) (evT X.N S x)),hvA X (fun x=>qo0 (zR bv i recs) (evT X.N S x)) o.op (qx9 (zA bv rs τ i recs) H),H.length,obs,v,zd o.op⟩::recs)
  |none=>none)
def jhm(X:Ctx Rf)(all:List Oper)(bv rs τ:List Nat):List Oper->Nat->List (Nat×TV)->List TOb->List En->(List (Nat×TV)->List TOb->List En->Option R)->Option R
 |[],_,S,H,recs,k=>k S H recs
 |o::rest,i,S,H,recs,k=>
  bif wu i rs then jhm X all bv rs τ rest (i+1) S H recs k
  else
   match o.guard with
   |none=>opA X bv rs τ i o S H recs (fun S' H' recs' =>jhm X all bv rs τ rest (i+1) S' H' recs' k)
   |some g=>jye X.N all g S (fun S1=>opA X bv rs τ i o S1 H recs (fun S' H' recs' =>jhm X all bv rs τ rest (i+1) S' H' recs' k))
    (fun S1=>jhm X all bv rs τ rest (i+1) (jbd S1 o.dst .undef) H (⟨i,o.dst,[],[],H.length,[], .undef,zd o.op⟩::recs) k)
def q4s:List St->Bool
 |[]=>true
 | .sb _::_=>false
 | .set _ _::l=>q4s l
 | .new _ _::l=>q4s l
def q1s(bv:List Nat)(i:Nat):List Nat->Bool
 |[]=>true
 |r::l=>bif Nat.beq r i||(inW bv r i||inW bv i r)then q1s bv i l else false
def opR(X:Ctx Rf)(bv rs:List Nat)(recs:List En)(i:Nat)(o:Oper)(s:TS)(k:TS->Option R):Option R:=
 qmb X o.op (fun x=>qo0 (zR bv i recs) (evT X.N s.S x)) (qx9 (zR bv i recs) s.H) (fun δ v=>match jea bv i δ recs with|some cs=>bif q1s bv i rs||q4s δ then ckL cs (k ((s.aps δ).put o.dst v))else none|none=>none)
def jls(X:Ctx Rf)(all:List Oper)(bv rs:List Nat)(recs:List En):List Oper->Nat->TS->(TS->Option R)->Option R
 |[],_,s,k=>k s
 |o::rest,i,s,k=>
  bif wu i rs then
   match o.guard with
   |none=>opR X bv rs recs i o s (fun s' =>jls X all bv rs recs rest (i+1) s' k)
   |some g=>jye X.N all g s.S (fun S1=>opR X bv rs recs i o ⟨S1,s.H⟩ (fun s' =>jls X all bv rs recs rest (i+1) s' k)) (fun S1=>jls X all bv rs recs rest (i+1) ((TS.mk S1 s.H).put o.dst .undef) k)
  else jls X all bv rs recs rest (i+1) s k
def jx1(X:Ctx Rf)(ops:List Oper)(bv rs τ:List Nat)(s:TS)(k:TS->Option R):Option R:=
 bif jxz ops bv rs then jhm X ops bv rs τ ops 0 s.S s.H [] (fun S H recs=>jls X ops bv rs recs ops 0 ⟨S,H⟩ k)else none
end
end Go.K
