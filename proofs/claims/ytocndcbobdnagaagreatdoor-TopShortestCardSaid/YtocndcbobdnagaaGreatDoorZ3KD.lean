/-
  A typed machine over the model's memory (part KD). No program is named.
-/
import Derived.Test.YtocndcbobdnagaaGreatDoorZ3KC
set_option linter.all false
namespace Go.K
open Go.M Go.RowKit
structure Ext (s s' : TS) : Prop where
 H : s.H = s'.H
 S : ∀ t, bu s.S t = bu s'.S t
theorem Ext.refl(s:TS):Ext s s:=⟨rfl,fun _=>rfl⟩
theorem Ext.symm{s s' :TS}(h:Ext s s'):Ext s' s:=⟨h.H.symm,fun t=>(h.S t).symm⟩
theorem Ext.trans{s s' s'' :TS}(h:Ext s s')(h' :Ext s' s''):Ext s s'' :=⟨h.H.trans h'.H,fun t=>(h.S t).trans (h'.S t)⟩
theorem Ext.ap{s s' :TS}(h:Ext s s')(x:St):Ext (s.ap x) (s'.ap x):=by
 refine⟨by simp only[TS.ap,h.H],fun t=> ?_⟩;cases x with
 |sb θ=>simp only[TS.ap,sAp,fv,h.S]
 |set t o=>exact h.S _
 |new t o=>exact h.S _
theorem Ext.aps{s s' :TS}(h:Ext s s'):∀δ:List St,Ext (s.aps δ) (s'.aps δ)
 |[]=>h
 |x::δ=>Ext.aps (h.ap x) δ
theorem jg{S:List (Nat×TV)}{d:Option Tmp}{v:TV}{t:Nat}:bu (jbd S d v) t=if d=some t then v else bu S t:=by
 cases d with
 |none=>rfl
 |some d=>simp only[jbd,q7,Wb]
theorem i7(s:TS)(d:Option Tmp)(v:TV):s.put d v=⟨jbd s.S d v,s.H⟩:=by cases d<;>rfl
theorem Ext.put{s s' :TS}(h:Ext s s')(d:Option Tmp)(v:TV):Ext (s.put d v) (s'.put d v):=by
 rw[i7,i7];exact⟨h.H,fun t=>by simp only[jg,h.S]⟩
section
variable {U : Nat -> Prop} {w0 : World} {J0 : Pl} {K : Nat -> Bool} {N : Nat}
theorem dr.ext{s s' :TS}(h:Ext s s'){a:Act}{w:World}{J:Pl}(hr:dr U w0 J0 K N s a w J):dr U w0 J0 K N s' a w J:=by
 have e:bu s.S=bu s'.S:=funext h.S;show ARel _ _ _ _ _ _ _ _ _ _;rw[<-e,<-h.H];exact hr
end
theorem jss{N:Nat}{S S' :List (Nat×TV)}(h:∀t,bu S t=bu S' t):evT N S=evT N S' :=by
 funext x;cases x with
 |tmp t=>simp only[evT,rd,h]
 |_=>rfl
mutual
def Wk:TV->TV->Prop
 |_, .any=>True
 | .fn f l, .fn g m=>f=g/\WkL l m
 | .agg l, .agg m=>WkL l m
 | .tup l, .tup m=>WkL l m
 | .cond c a, .cond c' b=>c=c' /\Wk a b
 | .nl a b, .nl c d=>a=c/\Wk b d
 |a,b=>a=b
def WkL:List TV->List TV->Prop
 |[],[]=>True
 |a::l,b::m=>Wk a b/\WkL l m
 |_,_=>False
end
mutual
theorem Wk.vr{G:Gr}:∀(A B:TV) (v:Value),Wk A B->VR G A v->VR G B v
 |A, .any,v,_,_=>trivial
 | .fn f l, .fn g m,v,h,hv=>by
  obtain⟨rfl,h⟩:=h;obtain⟨vs,hl,hc⟩:=hv;exact⟨vs,hl,WkL.vr l m vs h hc⟩
 | .agg l, .agg m,v,h,hv=>by
  obtain⟨vs,hl,hc,h1⟩:=hv;exact⟨vs,hl,WkL.vr l m vs h hc,h1⟩
 | .tup l, .tup m,v,h,hv=>by
  obtain⟨vs,hl,hc⟩:=hv;exact⟨vs,hl,WkL.vr l m vs h hc⟩
 | .cond c a, .cond c' b,v,h,hv=>by
  obtain⟨rfl,h⟩:=h;unfold VR at hv⊢;split
  ·rename_i hc;rw[if_pos hc]at hv;exact Wk.vr a b v h hv
  ·rename_i hc;rw[if_neg hc]at hv;exact hv
 | .nl a b, .nl c d,v,h,hv=>by
  obtain⟨rfl,h⟩:=h;exact⟨Wk.vr b d v h hv.1,hv.2⟩
 |A, .int k n,v,h,hv=>by cases A<;>simp only[Wk]at h<;>first|(cases h;done)|(cases h;exact hv)|(rw[h]at hv;exact hv)
 |A, .bool b,v,h,hv=>by cases A<;>simp only[Wk]at h<;>first|(cases h;done)|(cases h;exact hv)|(rw[h]at hv;exact hv)
 |A, .val u,v,h,hv=>by cases A<;>simp only[Wk]at h<;>first|(cases h;done)|(cases h;exact hv)|(rw[h]at hv;exact hv)
 |A, .e0,v,h,hv=>by cases A<;>simp only[Wk]at h<;>first|(cases h;done)|(cases h;exact hv)|(rw[h]at hv;exact hv)
 |A, .sl fr t xs,v,h,hv=>by cases A<;>simp only[Wk]at h<;>first|(cases h;done)|(cases h;exact hv)|(rw[h]at hv;exact hv)
 |A, .rptr fr t xs i f,v,h,hv=>by cases A<;>simp only[Wk]at h<;>first|(cases h;done)|(cases h;exact hv)|(rw[h]at hv;exact hv)
 |A, .dm fr kt vt es,v,h,hv=>by cases A<;>simp only[Wk]at h<;>first|(cases h;done)|(cases h;exact hv)|(rw[h]at hv;exact hv)
 |A, .own T,v,h,hv=>by cases A<;>simp only[Wk]at h<;>first|(cases h;done)|(cases h;exact hv)|(rw[h]at hv;exact hv)
 |A, .ownS T off n,v,h,hv=>by cases A<;>simp only[Wk]at h<;>first|(cases h;done)|(cases h;exact hv)|(rw[h]at hv;exact hv)
 |A, .mp T,v,h,hv=>by cases A<;>simp only[Wk]at h<;>first|(cases h;done)|(cases h;exact hv)|(rw[h]at hv;exact hv)
 |A, .ptr T i f,v,h,hv=>by cases A<;>simp only[Wk]at h<;>first|(cases h;done)|(cases h;exact hv)|(rw[h]at hv;exact hv)
theorem WkL.vr{G:Gr}:∀(l m:List TV) (vs:List Value),WkL l m->gf G l vs->gf G m vs
 |[],[],vs,_,hv=>hv
 |a::l,b::m,vs,h,hv=>by
  obtain⟨u,r,rfl,h1,h2⟩:=hv;exact⟨u,r,rfl,Wk.vr a b u h.1 h1,WkL.vr l m r h.2 h2⟩
 |[],b::m,vs,h,_=>h.elim
 |a::l,[],vs,h,_=>h.elim
end
mutual
theorem Wk.refl:∀(A:TV),Wk A A
 | .any=>trivial
 | .fn f l=>⟨rfl,WkL.refl l⟩
 | .agg l=>WkL.refl l
 | .tup l=>WkL.refl l
 | .cond c a=>⟨rfl,Wk.refl a⟩
 | .nl _ a=>⟨rfl,Wk.refl a⟩
 | .int _ _=>rfl
 | .bool _=>rfl
 | .val _=>rfl
 | .e0=>rfl
 | .sl _ _ _=>rfl
 | .rptr _ _ _ _ _=>rfl
 | .dm _ _ _ _=>rfl
 | .own _=>rfl
 | .ownS _ _ _=>rfl
 | .ptr _ _ _=>rfl
 | .mp _=>rfl
theorem WkL.refl:∀(l:List TV),WkL l l
 |[]=>trivial
 |a::l=>⟨Wk.refl a,WkL.refl l⟩
end
mutual
theorem Wk.kill{θ:TG->Ac}(hθ:∀T,θ T= .id\/θ T= .kill):∀(A:TV),Wk A (A.sb θ)
 | .any=>trivial
 | .fn f l=>⟨rfl,WkL.kill hθ l⟩
 | .agg l=>WkL.kill hθ l
 | .tup l=>WkL.kill hθ l
 | .cond c a=>⟨rfl,Wk.kill hθ a⟩
 | .nl _ a=>⟨rfl,Wk.kill hθ a⟩
 | .int _ _=>rfl
 | .bool _=>rfl
 | .val _=>rfl
 | .e0=>rfl
 | .sl _ _ _=>rfl
 | .rptr _ _ _ _ _=>rfl
 | .dm _ _ _ _=>rfl
 | .own T=>by rcases hθ T with e|e<;>simp[TV.sb,e,Wk]
 | .ownS T _ _=>by rcases hθ T with e|e<;>simp[TV.sb,e,Wk]
 | .mp T=>by rcases hθ T with e|e<;>simp[TV.sb,e,Wk]
 | .ptr T _ _=>by rcases hθ T with e|e<;>simp[TV.sb,e,Wk]
theorem WkL.kill{θ:TG->Ac}(hθ:∀T,θ T= .id\/θ T= .kill):∀(l:List TV),WkL l (TV.sbL θ l)
 |[]=>trivial
 |a::l=>⟨Wk.kill hθ a,WkL.kill hθ l⟩
end
theorem qmp{a:Ac}(h:a.isId=true):a= .id:=by cases a<;>simp_all[Ac.isId]
mutual
theorem Wk.sb{θ:TG->Ac}:∀(A B:TV),Wk A B->B.all (fun T=>(θ T).isId)=true->Wk (A.sb θ) B
 |A, .any,_,_=>by cases A<;>first|trivial|(simp only[TV.sb];first|trivial|(split<;>trivial))
 | .fn f l, .fn g m,h,ha=>⟨h.1,WkL.sb l m h.2 ha⟩
 | .agg l, .agg m,h,ha=>WkL.sb l m h ha
 | .tup l, .tup m,h,ha=>WkL.sb l m h ha
 | .cond c a, .cond c' b,h,ha=>⟨h.1,Wk.sb a b h.2 ha⟩
 | .nl _ a, .nl _ b,h,ha=>⟨h.1,Wk.sb a b h.2 ha⟩
 |A, .int k n,h,ha=>by cases A<;>simp only[Wk]at h<;>first|(cases h;done)|exact h
 |A, .bool b,h,ha=>by cases A<;>simp only[Wk]at h<;>first|(cases h;done)|exact h
 |A, .val u,h,ha=>by cases A<;>simp only[Wk]at h<;>first|(cases h;done)|exact h
 |A, .e0,h,ha=>by cases A<;>simp only[Wk]at h<;>first|(cases h;done)|trivial
 |A, .sl fr t xs,h,ha=>by cases A<;>simp only[Wk]at h<;>first|(cases h;done)|exact h
 |A, .rptr fr t xs i f,h,ha=>by cases A<;>simp only[Wk]at h<;>first|(cases h;done)|exact h
 |A, .dm fr kt vt es,h,ha=>by cases A<;>simp only[Wk]at h<;>first|(cases h;done)|exact h
 |A, .own T,h,ha=>by cases A<;>simp only[Wk]at h<;>first|(cases h;done)|(cases h;simp only[TV.all]at ha;simp only[TV.sb,qmp ha,Wk])
 |A, .ownS T off n,h,ha=>by cases A<;>simp only[Wk]at h<;>first|(cases h;done)|(cases h;simp only[TV.all]at ha;simp only[TV.sb,qmp ha,Wk])
 |A, .mp T,h,ha=>by cases A<;>simp only[Wk]at h<;>first|(cases h;done)|(cases h;simp only[TV.all]at ha;simp only[TV.sb,qmp ha,Wk])
 |A, .ptr T i f,h,ha=>by cases A<;>simp only[Wk]at h<;>first|(cases h;done)|(cases h;simp only[TV.all]at ha;simp only[TV.sb,qmp ha,Wk])
theorem WkL.sb{θ:TG->Ac}:∀(l m:List TV),WkL l m->TV.allL (fun T=>(θ T).isId) m=true->WkL (TV.sbL θ l) m
 |[],[],_,_=>trivial
 |a::l,b::m,h,ha=>by
  simp only[TV.allL,Wc]at ha;exact⟨Wk.sb a b h.1 ha.1,WkL.sb l m h.2 ha.2⟩
 |[],b::m,h,_=>h.elim
 |a::l,[],h,_=>h.elim
end
mutual
theorem jlu{θ:TG->Ac}:∀(A:TV),A.all (fun T=>(θ T).isId)=true->A.sb θ=A
 | .any,_=>rfl
 | .fn f l,h=>by simp only[TV.sb,qyt l h]
 | .agg l,h=>by simp only[TV.sb,qyt l h]
 | .tup l,h=>by simp only[TV.sb,qyt l h]
 | .cond c a,h=>by simp only[TV.sb,jlu a h]
 | .nl _ a,h=>by simp only[TV.sb,jlu a h]
 | .int _ _,_=>rfl
 | .bool _,_=>rfl
 | .val _,_=>rfl
 | .e0,_=>rfl
 | .sl _ _ _,_=>rfl
 | .rptr _ _ _ _ _,_=>rfl
 | .dm _ _ _ _,_=>rfl
 | .own T,h=>by simp only[TV.all]at h;simp only[TV.sb,qmp h]
 | .ownS T _ _,h=>by simp only[TV.all]at h;simp only[TV.sb,qmp h]
 | .ptr T _ _,h=>by simp only[TV.all]at h;simp only[TV.sb,qmp h]
 | .mp T,h=>by simp only[TV.all]at h;simp only[TV.sb,qmp h]
theorem qyt{θ:TG->Ac}:∀(l:List TV),TV.allL (fun T=>(θ T).isId) l=true->TV.sbL θ l=l
 |[],_=>rfl
 |a::l,h=>by
  simp only[TV.allL,Wc]at h;simp only[TV.sbL,jlu a h.1,qyt l h.2]
end
theorem jtt{θ:TG->Ac}(o:TOb)(h:o.all (fun T=>(θ T).isId)=true):o.sb θ=o:=by
 cases o with
 |cs ty sz n l=>simp only[TOb.sb,qyt l h]
 |_=>rfl
theorem jju{p:TG->Bool}:∀{H:List TOb},jjt p H=true->∀(t:Nat) o,H[t]? =some o->o.all p=true
 |[],_,t,o,h=>by simp at h
 |a::l,hp,t,o,h=>by
  simp only[jjt,Wc]at hp;cases t with
  |zero=>simp at h;subst h;exact hp.1
  |succ t=>exact jju hp.2 t o (by simpa using h)
theorem jts{θ:TG->Ac}:∀(H:List TOb),jjt (fun T=>(θ T).isId) H=true->cx θ H=H
 |[],_=>rfl
 |o::l,h=>by
  simp only[jjt,Wc]at h;simp only[cx,jtt o h.1,jts l h.2]
theorem jd0{k:Nat}:∀{l:List Nat},wu k l=true↔k∈l
 |[]=>by simp[wu]
 |a::l=>by
  unfold wu;cases e:Nat.beq a k with
  |true=>simp[ax e]
  |false=>
   have:a≠k:=fun e' =>by rw[e',W5]at e;cases e
   simp only[W9,Wr,jd0 (l:=l)];exact⟨.inr,fun h=>h.elim (fun e' =>absurd e'.symm this) id⟩
theorem jd1{k:Nat}{l:List Nat}:wu k l=false↔k∉l:=by
 rw[<-jd0 (l:=l)];cases wu k l<;>simp
theorem jy0(z:List Nat)(T:TG):jnw z T= .id\/jnw z T= .kill:=by
 cases T with
 |o t=>simp only[jnw];cases wu t z<;>simp
 |r t i f=>simp only[jnw];cases wu t z<;>simp
theorem qg8(z:List Nat)(A:TV):Wk A (qo0 z A):=by
 cases z with
 |nil=>exact Wk.refl A
 |cons a z=>exact Wk.kill (jy0 _) A
theorem jpm(z:List Nat):∀(H:List TOb) (k t:Nat) ob,(jan z k H)[t]? =some ob->ob= .gone\/(H[t]? =some ob/\(k+t)∉z)
 |[],k,t,ob,h=>by simp[jan]at h
 |o::l,k,0,ob,h=>by
  simp only[jan,List.getElem?_cons_zero,Wb]at h;cases hb:wu k z with
  |true=>rw[hb]at h;exact .inl h.symm
  |false=>
   rw[hb]at h;exact .inr ⟨by simpa using h,jd1.1 hb⟩
 |o::l,k,t+1,ob,h=>by
  simp only[jan,HA]at h;have:=jpm z l (k+1) t ob h;rw[show k+1+t=k+(t+1) by omega]at this;simpa using this
theorem jjc(z:List Nat):∀(H:List TOb) (k:Nat),(jan z k H).length=H.length
 |[],_=>rfl
 |o::l,k=>by simp[jan,jjc z l]
theorem jpl{z:List Nat}{H:List TOb}{t:Nat}{ob:TOb}(h:(qx9 z H)[t]? =some ob):ob= .gone\/(H[t]? =some ob/\t∉z):=by
 cases z with
 |nil=>exact .inr ⟨h,by simp⟩
 |cons a z=>simpa using jpm (a::z) H 0 t ob h
theorem q9a(z:List Nat)(H:List TOb):(qx9 z H).length=H.length:=by
 cases z with
 |nil=>rfl
 |cons a z=>exact jjc _ H 0
theorem jeq{t:Nat}:∀{k n:Nat},t∈places n k↔n<=t/\t<n+k
 |0,n=>by simp only[places,Hw,false_iff];omega
 |k+1,n=>by
  simp only[places,Wr,jeq (k:=k)];omega
def qp8:Nat->List TOb->List TOb->List TOb
 |_,[],H=>H
 |n,o::l,H=>qp8 (n+1) l (H.set n o)
theorem qf9:∀(l:List TOb) (n:Nat) (H:List TOb),(qp8 n l H).length=H.length
 |[],_,_=>rfl
 |o::l,n,H=>by simp[qp8,qf9 l]
theorem qhl:∀(l:List TOb) (n:Nat) (H:List TOb),n+l.length<=H.length->∀t,(qp8 n l H)[t]? =if n<=t/\t<n+l.length then l[t-n]? else H[t]?
 |[],n,H,_,t=>by simp only[qp8,KG];rw[if_neg (by omega)]
 |o::l,n,H,h,t=>by
  simp only[WA]at h;simp only[qp8,WA];rw[qhl l (n+1) (H.set n o) (by simp;omega) t];by_cases e:t=n
  ·subst e;rw[if_neg (by omega),if_pos (by omega),Wl (by omega)];simp
  ·rw[WF (Ko e)];by_cases h1:n+1<=t/\t<n+1+l.length
   ·rw[if_pos h1,if_pos (by omega),show t-n=(t-(n+1))+1 by omega,HA]
   ·rw[if_neg h1,if_neg (by omega)]
theorem jd9:∀{δ:List St} {n:Nat} {obs:List TOb},qh7 n δ=some obs->∀t o,St.new t o∈δ->n<=t/\t<n+obs.length
 |[],n,obs,h,t,o,hm=>by simp at hm
 | .new t' o' ::δ,n,obs,h,t,o,hm=>by
  simp only[qh7]at h;obtain⟨hb,h⟩:=ai h;split at h
  ·rename_i r hr;cases h;have:=ax hb;rcases Wr.1 hm with e|hm
   ·cases e;simp;omega
   ·have:=jd9 hr t o hm;simp;omega
  ·cases h
 | .sb θ::δ,n,obs,h,t,o,hm=>by simp[qh7]at h
 | .set t' o' ::δ,n,obs,h,t,o,hm=>by simp[qh7]at h
theorem jmw:∀{δ:List St} {n:Nat} {obs:List TOb} (s:TS),qh7 n δ=some obs->n+obs.length<=s.H.length->s.aps δ=⟨s.S,qp8 n obs s.H⟩
 |[],n,obs,s,h,_=>by simp only[qh7,Wb]at h;subst h;rfl
 | .new t' o' ::δ,n,obs,s,h,hl=>by
  simp only[qh7]at h;obtain⟨hb,h⟩:=ai h;split at h
  ·rename_i r hr;cases h;have:=ax hb;subst this;simp only[WA]at hl;have e:s.ap (.new t' o')=⟨s.S,s.H.set t' o'⟩:=by
    simp only[TS.ap,sAp,hAp,fq];rw[show Nat.blt t' s.H.length=true by simp[HW];omega];rfl
   show(s.ap (.new t' o')).aps δ=_;rw[e,jmw _ hr (by simp;omega)];rfl
  ·cases h
 | .sb θ::δ,n,obs,s,h,_=>by simp[qh7]at h
 | .set t' o' ::δ,n,obs,s,h,_=>by simp[qh7]at h
end Go.K
namespace Go.K
open Go.M Go.RowKit
theorem jcg{l:List Oper}{i:Nat}{o:Oper}(h:l[i]? =some o):q7t l i=onN o:=by simp only[q7t,h,onN]
theorem jnx{i:Nat}:∀{l:List Nat},jii i l=true->∀k∈l,k<i
 |[],_,k,h=>by simp at h
 |a::l,hl,k,h=>by
  unfold jii at hl;cases hb:Nat.blt a i with
  |false=>rw[hb]at hl;cases hl
  |true=>
   rw[hb]at hl;rcases Wr.1 h with rfl|h
   ·exact cm hb
   ·exact jnx hl k h
theorem jf7{bv:List Nat}:∀{l:List Oper} {i0:Nat},q6c bv i0 l=true->∀(j:Nat) o,l[j]? =some o->bv.getD (i0+j) 0=jak bv (onN o)/\∀k∈onN o,k<i0+j
 |[],_,_,j,o,h=>by simp at h
 |a::l,i0,ht,j,o,h=>by
  unfold q6c at ht;obtain⟨hb,ht⟩:(Nat.beq (bv.getD i0 0) (jak bv (onN a))&&jii i0 (onN a))=true/\q6c bv (i0+1) l=true:=by
   cases hb:(Nat.beq (bv.getD i0 0) (jak bv (onN a))&&jii i0 (onN a))with
   |false=>rw[hb]at ht;cases ht
   |true=>rw[hb]at ht;exact⟨rfl,ht⟩
  simp only[Wc]at hb;cases j with
  |zero=>
   simp at h;subst h;exact⟨ax hb.1,jnx hb.2⟩
  |succ j=>
   have:=jf7 ht j o (by simpa using h);rw[show i0+(j+1)=i0+1+j by omega];exact this
theorem jjb{bv:List Nat}{j:Nat}:∀{l:List Nat},Nat.testBit (jak bv l) j=true->∃k∈l,j=k\/Nat.testBit (bv.getD k 0) j=true
 |[],h=>by simp[jak]at h
 |a::l,h=>by
  have h' :Nat.testBit (((1<<<a)|||bv.getD a 0)|||jak bv l) j=true:=h;rw[Nat.testBit_or,Nat.testBit_or,Kj,Kj]at h';rcases h' with(h' |h')|h'
  ·rw[Nat.one_shiftLeft,Nat.testBit_two_pow,WH]at h';exact⟨a,Wf, .inl h'.symm⟩
  ·exact⟨a,Wf, .inr h'⟩
  ·obtain⟨k,hk,hj⟩:=jjb h';exact⟨k,We _ hk,hj⟩
theorem jpy{bv:List Nat}{l:List Oper}(ht:q6c bv 0 l=true){D:Nat->Bool}(hcl:q6u l D):∀(i:Nat) o,l[i]? =some o->(∀k∈q7t l i,D k=true)->∀j,inW bv j i=true->D j=true:=by
 intro i
 induction i using Nat.strongRecOn with
 |_ i ih=>
  intro o ho hon j hj;obtain⟨h1,h2⟩:=jf7 ht i o ho;rw[WR]at h1 h2;unfold inW at hj;rw[h1]at hj;obtain⟨k,hk,hjk⟩:=jjb hj;rw[jcg ho]at hon;have hDk:=hon k hk;rcases hjk with rfl|hjk
  ·exact hDk
  ·have hlt:=h2 k hk;have hil:i<l.length:=(Wh.1 ho).1;exact ih k hlt l[k] (Wi (by omega)) (fun m hm=>hcl k hDk m hm) j hjk
theorem jb2{bv:List Nat}{l:List Oper}(ht:q6c bv 0 l=true){D:Nat->Bool}(hcl:q6u l D){i:Nat}{o:Oper}(ho:l[i]? =some o)(hD:D i=true){j:Nat}(hj:inW bv j i=true):D j=true:=
 jpy ht hcl i o ho (fun k hk=>hcl i hD k hk) j hj
theorem jj3{a b:Bool}(h:(bif a then b else false)=true):a=true/\b=true:=by cases a<;>simp_all
theorem jiu{ops:List Oper}{bv rs:List Nat}{i:Nat}{o:Oper}:∀{l:List Oper} {k0:Nat},jld ops bv rs i o k0 l=true->∀(j:Nat) o',l[j]? =some o' ->jtd ops bv rs i o (k0+j) o' =true
 |[],_,_,j,o',h=>by simp at h
 |a::l,k0,hp,j,o',h=>by
  unfold jld at hp;obtain⟨h1,h2⟩:=jj3 hp;cases j with
  |zero=>simp at h;subst h;exact h1
  |succ j=>
   rw[show k0+(j+1)=k0+1+j by omega];exact jiu h2 j o' (by simpa using h)
theorem jee{ops:List Oper}{bv rs:List Nat}:∀{l:List Oper} {i0:Nat},jci ops bv rs i0 l=true->∀(i k:Nat) o o',i<k->l[i]? =some o->l[k]? =some o' ->jtd ops bv rs (i0+i) o (i0+k) o' =true
 |[],_,_,i,k,o,o',_,h,_=>by simp at h
 |a::l,i0,hp,i,k,o,o',hik,h,h' =>by
  unfold jci at hp;obtain⟨h1,h2⟩:=jj3 hp;cases k with
  |zero=>omega
  |succ k=>
   cases i with
   |zero=>
    simp at h;subst h;have:=jiu h1 k o' (by simpa using h');rw[show i0+(k+1)=i0+1+k by omega];exact this
   |succ i=>
    have:=jee h2 i k o o' (by omega) (by simpa using h) (by simpa using h');rw[show i0+(i+1)=i0+1+i by omega,show i0+(k+1)=i0+1+k by omega];exact this
theorem zy{ops:List Oper}{o o' :Oper}(h:q3k ops o o' =false):(∀d,o.dst=some d->d∉usN ops o' /\o'.dst≠some d)/\∀d,o'.dst=some d->d∉usN ops o:=by
 simp only[q3k,KS]at h;refine⟨fun d hd=> ?_,fun d hd=> ?_⟩
 ·rw[hd]at h;simp only[KS]at h;refine⟨jd1.1 h.1.1,fun e=> ?_⟩;have:=h.1.2;rw[dN,e]at this;simp only[W5]at this;cases this
 ·rw[hd]at h;exact jd1.1 h.2
structure Facts (ops : List Oper) (bv rs : List Nat) : Prop where
 tb : q6c bv 0 ops = true
 aa : ∀ i k o o', i < k -> ops[i]? = some o -> ops[k]? = some o' -> wu i rs = false -> inW bv i k = false -> q3k ops o o' = false
 rr : ∀ i k o o', i < k -> ops[i]? = some o -> ops[k]? = some o' -> wu i rs = true -> wu k rs = true -> inW bv i k = true \/ (q3k ops o o' = false /\ (qh6 o.op = true \/ qh6 o'.op = true))
 ra : ∀ i k o o', i < k -> ops[i]? = some o -> ops[k]? = some o' -> wu i rs = true -> wu k rs = false -> q3k ops o o' = false
theorem facts{ops:List Oper}{bv rs:List Nat}(h:jxz ops bv rs=true):Facts ops bv rs:=by
 simp only[jxz,Wc]at h;refine⟨h.1,fun i k o o' hik ho ho' hi hw=> ?_,fun i k o o' hik ho ho' hi hk=> ?_,fun i k o o' hik ho ho' hi hk=> ?_⟩
 all_goals
  have hp:=jee h.2 i k o o' hik ho ho';rw[WR,WR]at hp;unfold jtd at hp
 ·rw[hi]at hp;simpa[hw]using hp
 ·rw[hi,hk]at hp;simp only[Kj,Wc,WE]at hp;exact hp
 ·rw[hi,hk]at hp;simpa using hp
section
variable {Rf : Type}
def qh3(S0:List (Nat×TV)):List En->List (Nat×TV)
 |[]=>S0
 |e::l=>jbd (qh3 S0 l) e.dst e.v
def zw(H0:List TOb):List En->List TOb
 |[]=>H0
 |e::l=>zw H0 l++e.news
def Wn(N:Nat)(l:List Oper)(o:Oper)(S:List (Nat×TV))(b:Bool):Prop:=
 match o.guard with
 |none=>b=true
 |some g=>∃d,q3r l g.1=some d/\d<N/\((∃c,bu S d= .bool c/\(c==g.2)=b)\/(bu S d= .undef/\b=false))
structure EnOK (X : Ctx Rf) (l : List Oper) (bv rs τ : List Nat) (S0 : List (Nat × TV)) (H0 : List TOb) (recs : List En) (e : En) (o : Oper) : Prop where
 at_ : l[e.i]? = some o
 dst : e.dst = o.dst
 free : wu e.i rs = false
 wk : e.wk = zd o.op
 n : e.n = (zw H0 recs).length
 lt : ∀ e' ∈ recs, e'.i < e.i
 run : (Wn X.N l o (qh3 S0 recs) true /\ e.xs = o.op.operands.toList.map (fun x => qo0 (zR bv e.i recs) (evT X.N (qh3 S0 recs) x)) /\ HvW o.op e.Hv (qx9 (zA bv rs τ e.i recs) (zw H0 recs)) /\
     ∃ δ, qmb X o.op (fun x => qo0 (zR bv e.i recs) (evT X.N (qh3 S0 recs) x)) e.Hv rt = some (δ, e.v) /\ qh7 e.n δ = some e.news) \/
   (Wn X.N l o (qh3 S0 recs) false /\ e.v = .undef /\ e.news = [] /\ e.Hv = [] /\ e.xs = [])
def Tr(X:Ctx Rf)(l:List Oper)(bv rs τ:List Nat)(S0:List (Nat×TV))(H0:List TOb):List En->Prop
 |[]=>True
 |e::recs=>Tr X l bv rs τ S0 H0 recs/\∃o,EnOK X l bv rs τ S0 H0 recs e o
def Cov(l:List Oper)(rs:List Nat)(recs:List En)(m:Nat):Prop:=∀j,j<m->j<l.length->wu j rs=false->∃e∈recs,e.i=j
theorem Wn.ext{N:Nat}{l:List Oper}{o:Oper}{S S' :List (Nat×TV)}{b:Bool}(h:∀t,bu S t=bu S' t)(hw:Wn N l o S b):Wn N l o S' b:=by
 unfold Wn at hw⊢;cases hg:o.guard with
 |none=>rw[hg]at hw;exact hw
 |some g=>
  rw[hg]at hw;obtain⟨d,h1,h2,h3⟩:=hw;simp only[];refine⟨d,h1,h2,?_⟩;rw[<-h];exact h3
theorem qrh{R:Type}{N:Nat}{all:List Oper}{o:Oper}{g:Nat×Bool}(hg:o.guard=some g){S:List (Nat×TV)}{run skip:List (Nat×TV)->Option R}{r:R}(h:jye N all g S run skip=some r):
  ∃S1,(∀t,bu S1 t=bu S t)/\((Wn N all o S true/\run S1=some r)\/(Wn N all o S false/\skip S1=some r)):=by
 unfold jye at h;unfold Wn;rw[hg];split at h
 ·rename_i d hgd;refine⟨S,fun _=>rfl, .inr ⟨?_,h⟩⟩;unfold jqn at hgd;split at hgd
  ·rename_i d' hd;split at hgd
   ·cases hgd
   ·rename_i e;cases hgd;unfold rd at e;cases hb:Nat.blt d N with
    |false=>rw[hb]at e;cases e
    |true=>rw[hb]at e;exact⟨d,hd,cm hb, .inr ⟨e,rfl⟩⟩
   ·cases hgd
  ·cases hgd
 ·rename_i d b hgd;have hd:q3r all g.1=some d/\d<N/\bu S d= .bool b:=by
   unfold jqn at hgd;split at hgd
   ·rename_i d' hd;split at hgd
    ·rename_i b' e;cases hgd;unfold rd at e;cases hb:Nat.blt d N with
     |false=>rw[hb]at e;cases e
     |true=>rw[hb]at e;exact⟨hd,cm hb,e⟩
    ·cases hgd
    ·cases hgd
   ·cases hgd
  obtain⟨h1,h2,h3⟩:=hd;have hext:∀b',b=b' ->∀t,bu ((d,TV.bool b')::S) t=bu S t:=by
   rintro b' rfl t;rw[q7];split
   ·rename_i e;rw[<-e,h3]
   ·rfl
  obtain⟨g1,g2⟩:=g;simp only[]at h h1⊢;cases g2 with
  |true=>
   simp only[]at h;cases b with
   |true=>exact⟨_,hext true rfl, .inl ⟨⟨d,h1,h2, .inl ⟨true,h3,rfl⟩⟩,h⟩⟩
   |false=>exact⟨_,hext false rfl, .inr ⟨⟨d,h1,h2, .inl ⟨false,h3,rfl⟩⟩,h⟩⟩
  |false=>
   simp only[]at h;cases b with
   |true=>exact⟨_,hext true rfl, .inr ⟨⟨d,h1,h2, .inl ⟨true,h3,rfl⟩⟩,h⟩⟩
   |false=>exact⟨_,hext false rfl, .inl ⟨⟨d,h1,h2, .inl ⟨false,h3,rfl⟩⟩,h⟩⟩
 ·cases h
end
end Go.K
namespace Go.K
open Go.M Go.RowKit
section
variable {R Rf : Type} {X : Ctx Rf} {l : List Oper} {bv rs τ : List Nat} {S0 : List (Nat × TV)} {H0 : List TOb}
theorem jr4:∀{l:List Bool},gb l->qvb l=true
 |[],_=>rfl
 |c::l,h=>by
  simp only[qvb,Wc];exact⟨h c Wf,jr4 fun d hd=>h d (We _ hd)⟩
theorem qnm{S S' :List (Nat×TV)}(h:∀t,bu S t=bu S' t)(d:Option Tmp)(v:TV)(t:Nat):bu (jbd S d v) t=bu (jbd S' d v) t:=by
 simp only[jg,h]
theorem j3p{k:List (Nat×TV)->List TOb->List En->Option R}{r:R}:∀(ops:List Oper) (i:Nat) (S:List (Nat×TV)) (recs:List En),l.drop i=ops->Tr X l bv rs τ S0 H0 recs->(∀e∈recs,e.i<i)->Cov l rs recs i->(∀t,bu S t=bu (qh3 S0 recs) t)->
  jhm X l bv rs τ ops i S (zw H0 recs) recs k=some r->∃recs' S',Tr X l bv rs τ S0 H0 recs' /\Cov l rs recs' l.length/\(∀t,bu S' t=bu (qh3 S0 recs') t)/\k S' (zw H0 recs') recs' =some r:=by
 intro ops
 induction ops with
 |nil=>
  intro i S recs hd ht hlt hc hS h;have hi:l.length<=i:=by
   have:=W0 List.length hd;simp at this;omega
  exact⟨recs,S,ht,fun j hj hj' hm=>hc j (by omega) hj' hm,hS,h⟩
 |cons o rest ih=>
  intro i S recs hd ht hlt hc hS h;have hil:i<l.length:=by
   have:=W0 List.length hd;simp at this;omega
  have hoi:l[i]? =some o:=by
   have:=He hil;rw[hd]at this;rw[Wi hil];injection this with h1 h2
   rw[h1]
  have hdr:l.drop (i+1)=rest:=by
   have:=He hil;rw[hd]at this;injection this with h1 h2
   exact h2.symm
  have hnext:∀(e:En) S',e.i=i->Tr X l bv rs τ S0 H0 (e::recs)->(∀t,bu S' t=bu (qh3 S0 (e::recs)) t)->jhm X l bv rs τ rest (i+1) S' (zw H0 (e::recs)) (e::recs) k=some r->
    ∃recs' S',Tr X l bv rs τ S0 H0 recs' /\Cov l rs recs' l.length/\(∀t,bu S' t=bu (qh3 S0 recs') t)/\k S' (zw H0 recs') recs' =some r:=by
   intro e S' hei htr hS' hrun;refine ih (i+1) S' (e::recs) hdr htr (fun e' he' => ?_) (fun j hj hjl hm=> ?_) hS' hrun
   ·rcases Wr.1 he' with rfl|he'
    ·omega
    ·have:=hlt e' he';omega
   ·by_cases e' :j=i
    ·exact⟨e,Wf,by omega⟩
    ·obtain⟨e1,h1,h2⟩:=hc j (by omega) hjl hm;exact⟨e1,We _ h1,h2⟩
  have hop:∀S1,(∀t,bu S1 t=bu (qh3 S0 recs) t)->wu i rs=false->Wn X.N l o (qh3 S0 recs) true->opA X bv rs τ i o S1 (zw H0 recs) recs (fun S' H' recs' =>jhm X l bv rs τ rest (i+1) S' H' recs' k)=some r->
    ∃recs' S',Tr X l bv rs τ S0 H0 recs' /\Cov l rs recs' l.length/\(∀t,bu S' t=bu (qh3 S0 recs') t)/\k S' (zw H0 recs') recs' =some r:=by
   intro S1 hS1 hm hw hopA;unfold opA at hopA;rw[jss hS1]at hopA;obtain⟨δ,v,hk,hst⟩:=jja hopA;split at hk
   ·rename_i obs hobs;refine hnext ⟨i,o.dst,o.op.operands.toList.map (fun x=>qo0 (zR bv i recs) (evT X.N (qh3 S0 recs) x)),_,(zw H0 recs).length,obs,v,zd o.op⟩ _ rfl ⟨ht,o,hoi,rfl,hm,rfl,rfl,fun e' he' =>hlt e' he', .inl ⟨hw,rfl,zcw _ _ _ _,δ,hst,hobs⟩⟩ (qnm hS1 o.dst v) hk
   ·cases hk
  unfold jhm at h;cases hm:wu i rs with
  |true=>
   rw[hm]at h;exact ih (i+1) S recs hdr ht (fun e he=>by have:=hlt e he;omega) (fun j hj hjl hm' =>by
    by_cases e:j=i
    ·subst e;rw[hm]at hm';cases hm'
    ·exact hc j (by omega) hjl hm') hS h
  |false=>
   rw[hm]at h;simp only[W9]at h;split at h
   ·rename_i hg;exact hop S hS hm (by unfold Wn;rw[hg]) h
   ·rename_i g hg;obtain⟨S1,hext,hcase⟩:=qrh hg h;have hS1:∀t,bu S1 t=bu (qh3 S0 recs) t:=fun t=>(hext t).trans (hS t)
    rcases hcase with⟨hw,hrun⟩|⟨hw,hrun⟩
    ·exact hop S1 hS1 hm (hw.ext hS) hrun
    ·refine hnext ⟨i,o.dst,[],[],(zw H0 recs).length,[], .undef,zd o.op⟩ _ rfl ⟨ht,o,hoi,rfl,hm,rfl,rfl,fun e' he' =>hlt e' he', .inr ⟨hw.ext hS,rfl,rfl,rfl,rfl⟩⟩ (qnm hS1 o.dst .undef) ?_;simp only[zw,Kx];exact hrun
structure RE where
 i : Nat
 dst : Option Tmp
 δ : List St
 v : TV
def canR(s:TS):List RE->TS
 |[]=>s
 |e::l=>((canR s l).aps e.δ).put e.dst e.v
structure REOK (X : Ctx Rf) (l : List Oper) (bv rs : List Nat) (recs : List En) (s : TS) (rest : List RE) (e : RE) (o : Oper) : Prop where
 at_ : l[e.i]? = some o
 dst : e.dst = o.dst
 wr : wu e.i rs = true
 lt : ∀ e' ∈ rest, e'.i < e.i
 ord : q1s bv e.i rs = true \/ q4s e.δ = true
 run : (Wn X.N l o (canR s rest).S true /\ qmb X o.op (fun x => qo0 (zR bv e.i recs) (evT X.N (canR s rest).S x)) (qx9 (zR bv e.i recs) (canR s rest).H) rt = some (e.δ, e.v) /\ qz2 bv e.i e.δ recs = true) \/
   (Wn X.N l o (canR s rest).S false /\ e.δ = [] /\ e.v = .undef)
def TrR(X:Ctx Rf)(l:List Oper)(bv rs:List Nat)(recs:List En)(s:TS):List RE->Prop
 |[]=>True
 |e::rest=>TrR X l bv rs recs s rest/\∃o,REOK X l bv rs recs s rest e o
def j06(l:List Oper)(rs:List Nat)(res:List RE)(m:Nat):Prop:=∀j,j<m->j<l.length->wu j rs=true->∃e∈res,e.i=j
theorem j3q{recs:List En}{s0:TS}{k:TS->Option R}{r:R}:∀(ops:List Oper) (i:Nat) (s:TS) (res:List RE),l.drop i=ops->TrR X l bv rs recs s0 res->(∀e∈res,e.i<i)->j06 l rs res i->Ext s (canR s0 res)->
  jls X l bv rs recs ops i s k=some r->∃res' s',TrR X l bv rs recs s0 res' /\j06 l rs res' l.length/\Ext s' (canR s0 res')/\k s' =some r:=by
 intro ops
 induction ops with
 |nil=>
  intro i s res hd ht hlt hc hS h;have hi:l.length<=i:=by
   have:=W0 List.length hd;simp at this;omega
  exact⟨res,s,ht,fun j hj hj' hm=>hc j (by omega) hj' hm,hS,h⟩
 |cons o rest ih=>
  intro i s res hd ht hlt hc hS h;have hil:i<l.length:=by
   have:=W0 List.length hd;simp at this;omega
  have hoi:l[i]? =some o:=by
   have:=He hil;rw[hd]at this;rw[Wi hil];injection this with h1 h2
   rw[h1]
  have hdr:l.drop (i+1)=rest:=by
   have:=He hil;rw[hd]at this;injection this with h1 h2
   exact h2.symm
  have hnext:∀(e:RE) s',e.i=i->TrR X l bv rs recs s0 (e::res)->Ext s' (canR s0 (e::res))->jls X l bv rs recs rest (i+1) s' k=some r->
    ∃res' s',TrR X l bv rs recs s0 res' /\j06 l rs res' l.length/\Ext s' (canR s0 res')/\k s' =some r:=by
   intro e s' hei htr hS' hrun;refine ih (i+1) s' (e::res) hdr htr (fun e' he' => ?_) (fun j hj hjl hm=> ?_) hS' hrun
   ·rcases Wr.1 he' with rfl|he'
    ·omega
    ·have:=hlt e' he';omega
   ·by_cases e' :j=i
    ·exact⟨e,Wf,by omega⟩
    ·obtain⟨e1,h1,h2⟩:=hc j (by omega) hjl hm;exact⟨e1,We _ h1,h2⟩
  have hop:∀s1,Ext s1 (canR s0 res)->wu i rs=true->Wn X.N l o (canR s0 res).S true->opR X bv rs recs i o s1 (fun s' =>jls X l bv rs recs rest (i+1) s' k)=some r->
    ∃res' s',TrR X l bv rs recs s0 res' /\j06 l rs res' l.length/\Ext s' (canR s0 res')/\k s' =some r:=by
   intro s1 hS1 hm hw hopR;unfold opR at hopR;rw[jss hS1.S,hS1.H]at hopR;obtain⟨δ,v,hk,hst⟩:=jja hopR;split at hk
   ·rename_i cs hcs;obtain⟨hord,hk⟩:=ai hk;obtain⟨hok,hk⟩:=bn hk;exact hnext ⟨i,o.dst,δ,v⟩ _ rfl ⟨ht,o,hoi,rfl,hm,fun e' he' =>hlt e' he',(Kj _ _▸hord), .inl ⟨hw,hst,q7s hcs (jr4 hok)⟩⟩ ((hS1.aps δ).put o.dst v) hk
   ·cases hk
  unfold jls at h;cases hm:wu i rs with
  |false=>
   rw[hm]at h;exact ih (i+1) s res hdr ht (fun e he=>by have:=hlt e he;omega) (fun j hj hjl hm' =>by
    by_cases e:j=i
    ·subst e;rw[hm]at hm';cases hm'
    ·exact hc j (by omega) hjl hm') hS h
  |true=>
   rw[hm]at h;simp only[WQ]at h;split at h
   ·rename_i hg;exact hop s hS hm (by unfold Wn;rw[hg]) h
   ·rename_i g hg;obtain⟨S1,hext,hcase⟩:=qrh hg h;have hS1:Ext ⟨S1,s.H⟩ (canR s0 res):=⟨hS.H,fun t=>(hext t).trans (hS.S t)⟩;rcases hcase with⟨hw,hrun⟩|⟨hw,hrun⟩
    ·exact hop _ hS1 hm (hw.ext hS.S) hrun
    ·exact hnext ⟨i,o.dst,[], .undef⟩ _ rfl ⟨ht,o,hoi,rfl,hm,fun e' he' =>hlt e' he', .inr rfl, .inr ⟨hw.ext hS.S,rfl,rfl⟩⟩ (hS1.put o.dst .undef) hrun
def d9(S0:List (Nat×TV))(H0:List TOb)(D:Nat->Bool):List En->TS
 |[]=>⟨S0,H0⟩
 |e::l=>if D e.i=true then⟨jbd (d9 S0 H0 D l).S e.dst e.v,(d9 S0 H0 D l).H++e.news⟩else⟨(d9 S0 H0 D l).S,(d9 S0 H0 D l).H++List.replicate e.news.length .gone⟩
def stR(D:Nat->Bool)(s:TS):List RE->TS
 |[]=>s
 |e::l=>if D e.i=true then((stR D s l).aps e.δ).put e.dst e.v else stR D s l
theorem qm9(D:Nat->Bool):∀(recs:List En),(d9 S0 H0 D recs).H.length=(zw H0 recs).length
 |[]=>rfl
 |e::l=>by
  unfold d9 zw;split<;>simp[qm9 D l]
theorem jf0{D:Nat->Bool}{t:Nat}:∀{recs:List En},(∀e∈recs,e.dst=some t->D e.i=true)->bu (d9 S0 H0 D recs).S t=bu (qh3 S0 recs) t
 |[],_=>rfl
 |e::l,h=>by
  have ih:=jf0 (D:=D) (t:=t) (recs:=l) fun e' he' =>h e' (We _ he')
  unfold d9 qh3;split
  ·simp only[jg,ih]
  ·rename_i hd;have:e.dst≠some t:=fun e' =>hd (h e Wf e')
   simp only[jg,if_neg this,ih]
theorem Tr.bnd:∀{recs:List En},Tr X l bv rs τ S0 H0 recs->∀e∈recs,H0.length<=e.n/\e.n+e.news.length<=(zw H0 recs).length
 |[],_,e,h=>by simp at h
 |e' ::recs,ht,e,h=>by
  obtain⟨ht,o,he⟩:=ht;have hle:H0.length<=(zw H0 recs).length:=by
   clear ht he h
   induction recs with
   |nil=>exact Wg _
   |cons a m ih=>simp only[zw,Wx];omega
  rcases Wr.1 h with rfl|h
  ·rw[he.n];simp only[zw,Wx];omega
  ·have:=Tr.bnd ht e h;simp only[zw,Wx];omega
theorem jrm{D:Nat->Bool}{t:Nat}:∀{recs:List En},Tr X l bv rs τ S0 H0 recs->(∀e∈recs,e.n<=t->t<e.n+e.news.length->D e.i=true)->(d9 S0 H0 D recs).H[t]? =(zw H0 recs)[t]?
 |[],_,_=>rfl
 |e::recs,ht,h=>by
  obtain⟨ht,o,he⟩:=ht;have ih:=jrm (D:=D) (t:=t) ht fun e' he' =>h e' (We _ he')
  have hl:=qm9 (S0:=S0) (H0:=H0) D recs;unfold d9 zw;split
  ·simp only[Hg,hl,ih]
  ·rename_i hd;rcases Wz t (zw H0 recs).length with h1|h1
   ·rw[Wo (by omega),Wo h1,ih]
   ·have:¬t<e.n+e.news.length:=fun h2=>hd (h e Wf (by rw[he.n];exact h1) h2)
    rw[he.n]at this;rw[Wp (by simp;omega),Wp (by simp;omega)]
theorem jo8{D:Nat->Bool}{t:Nat}:∀{recs:List En},Tr X l bv rs τ S0 H0 recs->∀e∈recs,D e.i=false->e.n<=t->t<e.n+e.news.length->(d9 S0 H0 D recs).H[t]? =some .gone
 |[],_,e,h,_,_,_=>by simp at h
 |e' ::recs,ht,e,h,hD,h1,h2=>by
  obtain⟨ht,o,he⟩:=ht;have hl:=qm9 (S0:=S0) (H0:=H0) D recs;rcases Wr.1 h with rfl|h
  ·unfold d9;rw[if_neg (by simp[hD])];simp only[];rw[Wu (by rw[hl,<-he.n];exact h1),KF,if_pos (by rw[hl,<-he.n];omega)]
  ·have ih:=jo8 (D:=D) (t:=t) ht e h hD h1 h2;have hb:=(Tr.bnd ht e h).2;unfold d9;split<;>(simp only[];rw[Wo (by omega)];exact ih)
end
end Go.K
namespace Go.K
open Go.M Go.RowKit
section
variable {R Rf : Type} {X : Ctx Rf} {l : List Oper} {bv rs τ : List Nat} {S0 : List (Nat × TV)} {H0 : List TOb}
def apE(e:En)(s:TS):TS:=⟨jbd s.S e.dst e.v,qp8 e.n e.news s.H⟩
theorem Ext.apE{s s' :TS}(h:Ext s s')(e:En):Ext (apE e s) (apE e s'):=⟨by simp only[Go.K.apE,h.H],qnm h.S e.dst e.v⟩
theorem q8r{n:Nat}{news H Y:List TOb}(h:n+news.length<=H.length):qp8 n news (H++Y)=qp8 n news H++Y:=by
 apply KX;intro t;rw[qhl _ _ _ (by simp;omega)];rcases Wz t H.length with h1|h1
 ·rw[Wo h1,Wo (by rw[qf9];exact h1),qhl _ _ _ h]
 ·rw[if_neg (by omega),Wu h1,Wu (by rw[qf9];exact h1),qf9]
theorem jv7{news H:List TOb}:qp8 H.length news (H++List.replicate news.length .gone)=H++news:=by
 apply KX;intro t;rw[qhl _ _ _ (by simp)];rcases Wz t H.length with h1|h1
 ·rw[if_neg (by omega),Wo h1,Wo h1]
 ·rw[Wu h1,Wu h1,KF];by_cases h2:t<H.length+news.length
  ·rw[if_pos ⟨h1,h2⟩]
  ·rw[if_neg (by omega),if_neg (by omega),Wp (by omega)]
theorem q83{D D' :Nat->Bool}:∀{recs:List En},(∀e∈recs,D e.i=D' e.i)->d9 S0 H0 D recs=d9 S0 H0 D' recs
 |[],_=>rfl
 |e::m,h=>by
  unfold d9;rw[h e Wf,q83 fun e' he' =>h e' (We _ he')]
theorem qor{D:Nat->Bool}{i k:Nat}(h:k≠i):qn D i k=D k:=by simp[qn,h]
theorem jnc{D:Nat->Bool}{i:Nat}:qn D i i=true:=by simp[qn]
theorem jt2{D:Nat->Bool}:∀{recs:List En},Tr X l bv rs τ S0 H0 recs->∀e∈recs,D e.i=false->(∀e' ∈recs,e.i<e'.i->D e'.i=true->∀d,e'.dst=some d->e.dst≠some d)->Ext (d9 S0 H0 (qn D e.i) recs) (apE e (d9 S0 H0 D recs))
 |[],_,e,h,_,_=>by simp at h
 |e1::recs,ht,e,h,hD,hdst=>by
  obtain⟨ht,o,he⟩:=ht;rcases Wr.1 h with rfl|h
  ·have hc:d9 S0 H0 (qn D e.i) recs=d9 S0 H0 D recs:=q83 fun e' he' =>qor (by have:=he.lt e' he';omega)
   unfold d9;rw[if_pos jnc,if_neg (by simp[hD]),hc];refine⟨?_,fun t=>rfl⟩;simp only[apE];have hn:e.n=(d9 S0 H0 D recs).H.length:=by rw[qm9,he.n]
   rw[hn,jv7]
  ·have hlt:=he.lt e h;have ih:=jt2 ht e h hD fun e' he' =>hdst e' (We _ he')
   have hb:=(Tr.bnd ht e h).2;have hl:=qm9 (S0:=S0) (H0:=H0) D recs;have e0:qn D e.i e1.i=D e1.i:=qor (by omega);unfold d9;rw[e0];split
   ·rename_i hD1;refine⟨?_,fun t=> ?_⟩
    ·simp only[apE];rw[ih.H,q8r (by omega)];rfl
    ·simp only[apE,jg,ih.S];by_cases h1:e1.dst=some t
     ·have:=hdst e1 Wf hlt hD1 t h1;rw[if_pos h1,if_neg this,if_pos h1]
     ·rw[if_neg h1,if_neg h1]
   ·refine⟨?_,fun t=> ?_⟩
    ·simp only[apE];rw[ih.H,q8r (by omega)];rfl
    ·simp only[apE,ih.S]
theorem ji1{n t:Nat}{news H:List TOb}{o:TOb}(hb:n+news.length<=H.length)(ht:t<n\/n+news.length<=t):(qp8 n news H).set t o=qp8 n news (H.set t o):=by
 apply KX;intro t';rw[qhl _ _ _ (by rw[WB];exact hb)];by_cases h1:t=t'
 ·subst h1;rw[if_neg (by omega)];rcases Wz t H.length with h2|h2
  ·rw[Wl (by rw[qf9];exact h2),Wl h2]
  ·rw[Wp (by rw[WB,qf9];exact h2),Wp (by rw[WB];exact h2)]
 ·rw[WF h1,WF h1,qhl _ _ _ hb]
theorem j64{e:En}{s:TS}{x:St}(hok:qkl e x=true)(hb:e.n+e.news.length<=s.H.length):Ext ((apE e s).ap x) (apE e (s.ap x))/\e.n+e.news.length<=(s.ap x).H.length:=by
 cases x with
 |sb θ=>
  simp only[qkl,Wc]at hok;obtain⟨⟨⟨_,_⟩,h3⟩,h4⟩:=hok;refine⟨⟨?_,fun t=> ?_⟩,by simp only[TS.ap,hAp,c7];exact hb⟩
  ·simp only[TS.ap,hAp,apE];apply KX;intro t;rw[ij,qhl _ _ _ hb,qhl _ _ _ (by rw[c7];exact hb)];split
   ·rw[<-ij,jts _ h3]
   ·rw[ij]
  ·simp only[TS.ap,sAp,apE,fv,jg];split
   ·exact jlu _ h4
   ·rfl
 |set t o=>
  simp only[qkl,Wc,Kj]at hok;have ht:t<e.n\/e.n+e.news.length<=t:=hok.1.imp cm qc3;refine⟨⟨?_,fun t=>rfl⟩,by simp only[TS.ap,hAp,WB];exact hb⟩;simp only[TS.ap,hAp,apE];exact ji1 hb ht
 |new t o=>
  simp only[qkl,Wc]at hok;have ht:=qc3 hok.1;simp only[TS.ap,hAp,fq,apE,qf9];cases hblt:Nat.blt t s.H.length with
  |true=>
   simp only[WQ];refine⟨⟨?_,fun t=>rfl⟩,by rw[WB];exact hb⟩;exact ji1 hb (.inr ht)
  |false=>
   simp only[W9];refine⟨⟨?_,fun t=>rfl⟩,by rw[Wx];omega⟩;simp only[];rw[q8r hb]
theorem jr6{e:En}:∀{δ:List St} {s:TS},yf e δ=true->e.n+e.news.length<=s.H.length->Ext ((apE e s).aps δ) (apE e (s.aps δ))/\e.n+e.news.length<=(s.aps δ).H.length
 |[],s,_,hb=>⟨Ext.refl _,hb⟩
 |x::δ,s,hok,hb=>by
  simp only[yf,Wc]at hok;obtain⟨h1,h2⟩:=j64 hok.1 hb;obtain⟨h3,h4⟩:=jr6 hok.2 h2;exact⟨(h1.aps δ).trans h3,h4⟩
theorem j1a{e:En}{s:TS}{d:Option Tmp}{v:TV}(h:∀t,d=some t->e.dst≠some t):Ext ((apE e s).put d v) (apE e (s.put d v)):=by
 rw[i7,i7];refine⟨rfl,fun t=> ?_⟩;simp only[apE,jg];by_cases h1:d=some t
 ·rw[if_pos h1,if_neg (h t h1),if_pos h1]
 ·rw[if_neg h1,if_neg h1]
theorem q94(s:TS)(d:Option Tmp)(v:TV):(s.put d v).H=s.H:=by cases d<;>rfl
theorem jt4{e:En}{D D' :Nat->Bool}{s s' :TS}(hb:e.n+e.news.length<=s.H.length)(he:Ext s' (apE e s)):∀{res:List RE},(∀re∈res,D' re.i=D re.i)->(∀re∈res,D re.i=true->yf e re.δ=true/\∀t,re.dst=some t->e.dst≠some t)->
  Ext (stR D' s' res) (apE e (stR D s res))/\e.n+e.news.length<=(stR D s res).H.length
 |[],_,_=>⟨he,hb⟩
 |re::res,hD,h=>by
  obtain⟨h1,h2⟩:=jt4 hb he (res:=res) (fun r hr=>hD r (We _ hr)) (fun r hr=>h r (We _ hr));unfold stR;rw[hD re Wf];split
  ·rename_i hd;obtain⟨h3,h4⟩:=h re Wf hd;obtain⟨h5,h6⟩:=jr6 h3 h2;refine⟨(((h1.aps re.δ).trans h5).put re.dst re.v).trans (j1a h4),by rw[q94];exact h6⟩
  ·exact⟨h1,h2⟩
theorem CsW.sb{ob ob' :TOb}{θ:TG->Ac}(h:CsW ob ob')(ha:ob.all (fun T=>(θ T).isId)=true):CsW ob (ob'.sb θ):=by
 obtain⟨ty,sz,n,cs,rfl,h0,⟨cs',rfl,hc⟩|⟨md,its,u,xs,rfl,e1,e2,hc⟩⟩:=h
 ·refine⟨ty,sz,n,cs,rfl,h0, .inl ⟨_,rfl,fun i=> ?_⟩⟩;rcases hc i with e|e
  ·exact .inl e
  ·refine .inr ?_;have e3:TV.sbL θ cs=cs:=qyt cs ha;rw[TV.sbL_at,<-e,<-TV.sbL_at,e3]
 ·exact⟨ty,sz,n,cs,rfl,h0, .inr ⟨md,its,u,xs,rfl,e1,e2,hc⟩⟩
theorem jxn{v v' :TV}{l:List Bool}(h:jxm v v' =some l)(hl:qvb l=true):v= .any\/v=v' :=by
 unfold jxm at h;split at h
 ·exact .inl rfl
 ·split at h
  ·rename_i e;cases h;subst e;simp only[qvb,Bool.and_true,WH]at hl;exact .inr (by rw[hl])
  ·cases h
 ·cases h;simp only[qvb,Bool.and_true,beq_iff_eq]at hl;exact .inr (by rw[hl])
 ·obtain⟨h1,_⟩:=ai h;exact .inr (by rw[ax h1])
 ·cases h
theorem q65:∀{cs cs' :List TV} {l:List Bool},q64 cs cs' =some l->qvb l=true->∀i,cs.getD i .any= .any\/cs.getD i .any=cs'.getD i .any
 |[],_,_,_,_,i=> .inl rfl
 |v::cs,[],l,h,hl,i=>by
  simp only[q64]at h;split at h
  ·cases i with
   |zero=>exact .inl rfl
   |succ i=>exact q65 (cs:=cs) (cs' :=[]) h hl i
  ·cases h
 |v::cs,v' ::cs',l,h,hl,i=>by
  simp only[q64]at h;split at h
  ·rename_i a ha;split at h
   ·rename_i b hb;cases h;obtain⟨h1,h2⟩:=q3b hl;cases i with
    |zero=>exact jxn ha h1
    |succ i=>exact q65 hb h2 i
   ·cases h
  ·cases h
theorem jr5:∀{cs:List TV},j63 cs=true->∀i,cs.getD i .any= .any
 |[],_,i=>rfl
 | .any::cs,h,0=>rfl
 | .any::cs,h,i+1=>jr5 (cs:=cs) h i
 | .int _ _::_,h,_=>by cases h
 | .bool _::_,h,_=>by cases h
 | .val _::_,h,_=>by cases h
 | .e0::_,h,_=>by cases h
 | .sl _ _ _::_,h,_=>by cases h
 | .rptr _ _ _ _ _::_,h,_=>by cases h
 | .dm _ _ _ _::_,h,_=>by cases h
 | .own _::_,h,_=>by cases h
 | .ownS _ _ _::_,h,_=>by cases h
 | .ptr _ _ _::_,h,_=>by cases h
 | .mp _::_,h,_=>by cases h
 | .fn _ _::_,h,_=>by cases h
 | .agg _::_,h,_=>by cases h
 | .tup _::_,h,_=>by cases h
 | .cond _ _::_,h,_=>by cases h
 | .nl _ _::_,h,_=>by cases h
theorem jz7{wk:Bool}{ob o:TOb}(h:jtv wk ob o=true):ob= .gone\/(wk=true/\CsW ob o):=by
 unfold jtv at h;split at h
 ·rename_i l hl;unfold jz8 at hl;split at hl
  ·exact .inl rfl
  ·rename_i ty sz n cs;have h1:=(ai hl).1
   replace hl:=(ai hl).2
   simp only[Wc]at h1;refine .inr ⟨h1.1,?_⟩;split at hl
   ·rename_i ty' sz' n' cs';have h2:=(ai hl).1
    replace hl:=(ai hl).2
    simp only[Wc]at h2;have e1:=ax h2.1.1;have e2:=ax h2.1.2;have e3:=ax h2.2;subst e1 e2 e3;exact⟨_,_,_,_,rfl,cm h1.2, .inl ⟨_,rfl,q65 hl h⟩⟩
   ·rename_i ty' md its u xs;have h2:=(ai hl).1
    replace hl:=(ai hl).2
    simp only[Wc]at h2;have e1:=ax h2.1.1;have e2:=ax h2.1.2;subst e1 e2;cases hl;simp only[qvb,Bool.and_true,WH]at h;exact⟨_,_,_,_,rfl,cm h1.2, .inr ⟨_,_,_,_,rfl,rfl,h.symm,jr5 h2.2⟩⟩
   ·cases hl
  ·cases hl
 ·cases h
structure Seen (N : Nat) (l : List Oper) (e : En) (o : Oper) (ex : Operand -> TV) (b : Bool) (s : TS) : Prop where
 hv : ∀ (t : Nat) (ob : TOb), e.Hv[t]? = some ob -> ob = .gone \/ s.H[t]? = some ob \/ (zd o.op = true /\ ∃ ob', s.H[t]? = some ob' /\ CsW ob ob')
 xs : b = true -> ∀ x ∈ o.op.operands, Wk (evT N s.S x) (ex x)
 gd : Wn N l o s.S b
 fr : ∀ t : Nat, e.n <= t -> t < e.n + e.news.length -> s.H[t]? = some TOb.gone
theorem zbb{N:Nat}{S:List (Nat×TV)}{θ:TG->Ac}{x:Operand}{B:TV}(h:Wk (evT N S x) B)(ha:B.all (fun T=>(θ T).isId)=true):Wk (evT N (sbS θ S) x) B:=by
 cases x with
 |tmp t=>
  simp only[evT,rd]at h⊢;cases hb:Nat.blt t N with
  |false=>rw[hb]at h;exact h
  |true=>
   rw[hb]at h;simp only[WQ]at h⊢;rw[fv];exact Wk.sb _ _ h ha
 |_=>exact h
theorem Wn.sb{N:Nat}{l:List Oper}{o:Oper}{S:List (Nat×TV)}{b:Bool}(θ:TG->Ac)(h:Wn N l o S b):Wn N l o (sbS θ S) b:=by
 unfold Wn at h⊢;cases hg:o.guard with
 |none=>rw[hg]at h;exact h
 |some g=>
  rw[hg]at h;obtain⟨d,h1,h2,h3⟩:=h;simp only[];refine⟨d,h1,h2,?_⟩;rw[fv];rcases h3 with⟨c,e,h4⟩|⟨e,h4⟩
  ·exact .inl ⟨c,by rw[e];rfl,h4⟩
  ·exact .inr ⟨by rw[e];rfl,h4⟩
theorem Seen.ap{N:Nat}{e:En}{o:Oper}{ex:Operand->TV}{b:Bool}{s:TS}(h:Seen N l e o ex b s)(hwk:e.wk=zd o.op)(hxs:b=true->e.xs=o.op.operands.toList.map ex){x:St}(hok:qkl e x=true):Seen N l e o ex b (s.ap x):=by
 cases x with
 |sb θ=>
  simp only[qkl,Wc]at hok;obtain⟨⟨⟨h1,h2⟩,h3⟩,h4⟩:=hok;refine⟨fun t ob ho=> ?_,fun hb x hx=> ?_,h.gd.sb θ,fun t t1 t2=> ?_⟩
  ·rcases h.hv t ob ho with e1|e1|⟨hl,ob',e1,hc⟩
   ·exact .inl e1
   ·refine .inr (.inl ?_);simp only[TS.ap,hAp,ij,e1,Wd];rw[jtt ob (jju h2 t ob ho)]
   ·refine .inr (.inr ⟨hl,ob'.sb θ,?_,hc.sb (jju h2 t ob ho)⟩);simp only[TS.ap,hAp,ij,e1,Wd]
  ·refine zbb (h.xs hb x hx) ?_;rw[hxs hb]at h1;have:∀{l:List TV} {p:TG->Bool},TV.allL p l=true->∀A∈l,A.all p=true:=by
    intro l p
    induction l with
    |nil=>intro _ A hA;simp at hA
    |cons B l ih=>
     intro ha A hA;simp only[TV.allL,Wc]at ha;rcases Wr.1 hA with rfl|hA
     ·exact ha.1
     ·exact ih ha.2 A hA
   exact this h1 _ (WG.2 ⟨x,by simpa using hx,rfl⟩)
  ·simp only[TS.ap,hAp,ij,h.fr t t1 t2];rfl
 |set t' o' =>
  simp only[qkl,Wc,Kj]at hok;have ht:t' <e.n\/e.n+e.news.length<=t' :=hok.1.imp cm qc3;refine⟨fun t ob ho=> ?_,h.xs,h.gd,fun t t1 t2=> ?_⟩
  ·have key:∀ob0,s.H[t]? =some ob0->t' =t->ob= .gone\/(s.ap (.set t' o')).H[t]? =some ob\/(zd o.op=true/\∃ob',(s.ap (.set t' o')).H[t]? =some ob' /\CsW ob ob'):=by
    intro ob0 h0 e2;subst e2;have h2:=hok.2;rw[Wa,ho,WX]at h2;rcases jz7 h2 with e3|⟨e3,e4⟩
    ·exact .inl e3
    ·refine .inr (.inr ⟨by rw[<-hwk];exact e3,o',?_,e4⟩);simp only[TS.ap,hAp];exact Wl (Wh.1 h0).1
   rcases h.hv t ob ho with e1|e1|⟨hl,ob',e1,hc⟩
   ·exact .inl e1
   ·by_cases e2:t' =t
    ·exact key _ e1 e2
    ·refine .inr (.inl ?_);simp only[TS.ap,hAp,WF e2];exact e1
   ·by_cases e2:t' =t
    ·exact key _ e1 e2
    ·refine .inr (.inr ⟨hl,ob',?_,hc⟩);simp only[TS.ap,hAp,WF e2];exact e1
  ·simp only[TS.ap,hAp];rw[WF (by omega)];exact h.fr t t1 t2
 |new t' o' =>
  simp only[qkl,Wc]at hok;have ht:=qc3 hok.1;have ht2:=qc3 hok.2;have key:∀t ob,t≠t' ->s.H[t]? =some ob->(fq s.H t' o')[t]? =some ob:=by
   intro t ob hne hs;unfold fq;cases Nat.blt t' s.H.length with
   |true=>simp only[WQ];rw[WF (Ko hne)];exact hs
   |false=>simp only[W9];rw[Wo (Wh.1 hs).1];exact hs
  refine⟨fun t ob ho=> ?_,h.xs,h.gd,fun t t1 t2=>key t _ (by omega) (h.fr t t1 t2)⟩;have:t<e.Hv.length:=(Wh.1 ho).1;rcases h.hv t ob ho with e1|e1|⟨hl,ob',e1,hc⟩
  ·exact .inl e1
  ·exact .inr (.inl (key t ob (by omega) e1))
  ·exact .inr (.inr ⟨hl,ob',key t ob' (by omega) e1,hc⟩)
theorem Seen.aps{N:Nat}{e:En}{o:Oper}{ex:Operand->TV}{b:Bool}(hwk:e.wk=zd o.op)(hxs:b=true->e.xs=o.op.operands.toList.map ex):∀{δ:List St} {s:TS},Seen N l e o ex b s->yf e δ=true->Seen N l e o ex b (s.aps δ)
 |[],s,h,_=>h
 |x::δ,s,h,hok=>by
  simp only[yf,Wc]at hok;exact Seen.aps hwk hxs (δ:=δ) (s:=s.ap x) (h.ap hwk hxs hok.1) hok.2
theorem j7p{N:Nat}{S:List (Nat×TV)}{d:Option Tmp}{v:TV}{x:Operand}(h:∀t,x= .tmp t->d≠some t):evT N (jbd S d v) x=evT N S x:=by
 cases x with
 |tmp t=>simp only[evT,rd,jg,if_neg (h t rfl)]
 |_=>rfl
theorem jrx{l:List Oper}{o:Oper}{t:Nat}(h:Operand.tmp t∈o.op.operands):t∈usN l o:=
 WS.2 (.inl (List.mem_filterMap.2 ⟨.tmp t,by simpa using h,rfl⟩))
theorem zav{l:List Oper}{o:Oper}{g:Nat×Bool}{d:Nat}(hg:o.guard=some g)(hd:q3r l g.1=some d):d∈usN l o:=by
 refine WS.2 (.inr ?_);rw[hg];simp only[hd];simp
theorem Wn.slots{N:Nat}{l:List Oper}{o:Oper}{S S' :List (Nat×TV)}{b:Bool}(h:∀t∈usN l o,bu S t=bu S' t)(hw:Wn N l o S b):Wn N l o S' b:=by
 unfold Wn at hw⊢;cases hg:o.guard with
 |none=>rw[hg]at hw;exact hw
 |some g=>
  rw[hg]at hw;obtain⟨d,h1,h2,h3⟩:=hw;simp only[];refine⟨d,h1,h2,?_⟩;rw[<-h d (zav hg h1)];exact h3
theorem Seen.put{N:Nat}{e:En}{o:Oper}{ex:Operand->TV}{b:Bool}{s:TS}(h:Seen N l e o ex b s){d:Option Tmp}{v:TV}(hd:∀t,d=some t->t∉usN l o):Seen N l e o ex b (s.put d v):=by
 rw[i7];refine⟨h.hv,fun hb x hx=> ?_,h.gd.slots fun t ht=> ?_,h.fr⟩
 ·rw[j7p (fun t e1 e2=>hd t e2 (jrx (by rw[<-e1];exact hx)))];exact h.xs hb x hx
 ·rw[jg,if_neg fun e2=>hd t e2 ht]
theorem jf1{N:Nat}{e:En}{o:Oper}{ex:Operand->TV}{b:Bool}(hwk:e.wk=zd o.op)(hxs:b=true->e.xs=o.op.operands.toList.map ex){D:Nat->Bool}{s:TS}(hg:Seen N l e o ex b s):∀{res:List RE},(∀re∈res,D re.i=true->yf e re.δ=true/\∀t,re.dst=some t->t∉usN l o)->Seen N l e o ex b (stR D s res)
 |[],_=>hg
 |re::res,h=>by
  have ih:=jf1 hwk hxs hg (res:=res) fun r hr=>h r (We _ hr)
  unfold stR;split
  ·rename_i hd;obtain⟨h1,h2⟩:=h re Wf hd;exact(Seen.aps hwk hxs ih h1).put h2
  ·exact ih
end
end Go.K
namespace Go.K
open Go.M Go.RowKit
section
variable {U : Nat -> Prop} {w0 : World} {J0 : Pl} {K : Nat -> Bool} {N : Nat} {P : Program}
theorem dr.heapEq{s:TS}{a:Act}{w w' :World}{J:Pl}(h:dr U w0 J0 K N s a w J)(h1:w'.heap=w.heap)(h2:w'.os=w.os)(h3:w'.tape=w.tape)(h4:w'.output=w.output):dr U w0 J0 K N s a w' J:=by
 have hV:∀T:TG,¬False->vw s.H T=(vw s.H T).map (Vw.sb fun _=> .id):=fun T _=>(qo7 _).symm
 have hm:Mv (fun _=> .id) (gr U (vw s.H) w J) (gr U (vw s.H) w' J):=
  Mv.upd h.hr (fun _=>False) (by rw[h1];exact Wg _) hV (fun T _=>rfl) (fun T g o _ _=>by rw[h1]) (fun b _ _=>by rw[h1]) (fun T g o hT=>hT.elim) (fun T q _ T' e=>by cases e) (fun T T' q hT=>hT.elim) (fun T fr u xs q e=>by cases e)
 refine ARel.go h hm (fun t=>(TV.sb_id _).symm) ?_;exact h.hr.upd (fun _=>False) hm hV (fun T _=>rfl) (fun T g o _ _=>by rw[h1]) (fun T v hT=>hT.elim) (fun T p hT=>hT.elim) (fun T g o hT=>hT.elim) h.hr.inj h2 h3 h4 (fun t _ hT=>hT.elim) (fun t g o _ hT=>hT.elim)
theorem jnf:∀(l:List Oper) (j:Nat),q3r l j=(l[j]?).bind (·.dst)
 |[],j=>by simp[q3r]
 |o::l,0=>rfl
 |o::l,j+1=>by simpa[q3r]using jnf l j
theorem qcv{l:List Oper}{s:TS}{a:Act}{w:World}{J:Pl}(h:dr U w0 J0 K N s a w J){o:Oper}{b:Bool}(hw:Wn N l o s.S b):Region.wanted o (yielded l.toArray a.tmps)=b:=by
 unfold Wn at hw;cases hg:o.guard with
 |none=>rw[hg]at hw;subst hw;simp[Region.wanted,hg]
 |some g=>
  rw[hg]at hw;obtain⟨d,h1,h2,h3⟩:=hw;obtain⟨v,hv,hV⟩:=h.slot d h2;obtain⟨gj,gw⟩:=g;simp only[Region.wanted,hg,yielded];have e1:((l.toArray[gj]?).bind (·.dst))=some d:=by rw[jnf]at h1;simpa using h1
  rw[e1];simp only[Option.bind_some,hv];rcases h3 with⟨c,e,h4⟩|⟨e,h4⟩
  ·rw[e]at hV;simp only[VR]at hV;subst hV;rw[<-h4];cases c<;>cases gw<;>rfl
  ·rw[e]at hV;simp only[VR,KP,KI]at hV;subst hV;rw[h4];rfl
end
section
variable {R Rf : Type} {X : Ctx Rf} {l : List Oper} {bv rs τ : List Nat} {S0 : List (Nat × TV)} {H0 : List TOb}
theorem Tr.at_:∀{recs:List En},Tr X l bv rs τ S0 H0 recs->∀e∈recs,∃o,l[e.i]? =some o/\e.dst=o.dst/\wu e.i rs=false
 |[],_,e,h=>by simp at h
 |e' ::recs,ht,e,h=>by
  obtain⟨ht,o,he⟩:=ht;rcases Wr.1 h with rfl|h
  ·exact⟨o,he.at_,he.dst,he.free⟩
  ·exact Tr.at_ ht e h
theorem Tr.split:∀{recs:List En},Tr X l bv rs τ S0 H0 recs->∀e∈recs,∃later earlier o,recs=later++e::earlier/\Tr X l bv rs τ S0 H0 earlier/\EnOK X l bv rs τ S0 H0 earlier e o/\∀e' ∈later,e.i<e'.i
 |[],_,e,h=>by simp at h
 |e1::recs,ht,e,h=>by
  obtain⟨ht,o,he⟩:=ht;rcases Wr.1 h with rfl|hm
  ·exact⟨[],recs,o,rfl,ht,he,fun e' he' =>by simp at he'⟩
  ·obtain⟨later,earlier,o',h1,h2,h3,h4⟩:=Tr.split ht e hm;refine⟨e1::later,earlier,o',by rw[h1];rfl,h2,h3,fun e' he' => ?_⟩;rcases Wr.1 he' with rfl|he'
   ·exact he.lt e hm
   ·exact h4 e' he'
theorem q58(D:Nat->Bool)(e:En)(m:List En):d9 S0 H0 D (e::m)=if D e.i=true then⟨jbd (d9 S0 H0 D m).S e.dst e.v,(d9 S0 H0 D m).H++e.news⟩else⟨(d9 S0 H0 D m).S,(d9 S0 H0 D m).H++List.replicate e.news.length .gone⟩:=rfl
theorem qx1{D:Nat->Bool}{t:Nat}{m:List En}:∀{later:List En},(∀e∈later,e.dst=some t->D e.i=false)->bu (d9 S0 H0 D (later++m)).S t=bu (d9 S0 H0 D m).S t
 |[],_=>rfl
 |e::later,h=>by
  have ih:=qx1 (m:=m) (later:=later) fun e' he' =>h e' (We _ he')
  rw[Hu,q58];split
  ·rename_i hd;have:e.dst≠some t:=fun e1=>by rw[h e Wf e1]at hd;cases hd
   simp only[jg,if_neg this];exact ih
  ·exact ih
theorem qx0{D:Nat->Bool}{t:Nat}{m:List En}(ht:t<(d9 S0 H0 D m).H.length):∀{later:List En},t<(d9 S0 H0 D (later++m)).H.length/\(d9 S0 H0 D (later++m)).H[t]? =(d9 S0 H0 D m).H[t]?
 |[]=>⟨ht,rfl⟩
 |e::later=>by
  obtain⟨h1,h2⟩:=qx0 ht (later:=later);rw[Hu,q58];split
  ·exact⟨by simp only[Wx];omega,by simp only[];rw[Wo h1];exact h2⟩
  ·exact⟨by simp only[Wx];omega,by simp only[];rw[Wo h1];exact h2⟩
theorem jmc{i:Nat}{t:Nat}:∀{recs:List En},t∉zR bv i recs->∀e∈recs,e.n<=t->t<e.n+e.news.length->inW bv e.i i=true
 |[],_,e,h,_,_=>by simp at h
 |e' ::recs,hz,e,h,h1,h2=>by
  unfold zR at hz;cases hb:inW bv e'.i i with
  |true=>
   rw[hb]at hz;rcases Wr.1 h with rfl|h
   ·exact hb
   ·exact jmc hz e h h1 h2
  |false=>
   rw[hb]at hz;simp only[W9,WS,not_or]at hz;rcases Wr.1 h with rfl|h
   ·exact absurd (jeq.2 ⟨h1,h2⟩) hz.1
   ·exact jmc hz.2 e h h1 h2
theorem j4q(hF:Facts l bv rs){D:Nat->Bool}(hcl:q6u l D){recs later earlier:List En}{e:En}{o:Oper}(hr:recs=later++e::earlier)(ht:Tr X l bv rs τ S0 H0 recs)(hte:Tr X l bv rs τ S0 H0 earlier)(he:EnOK X l bv rs τ S0 H0 earlier e o)(hlt:∀e' ∈later,e.i<e'.i)
  (hD:D e.i=false) (hW:∀j,inW bv j e.i=true->D j=true) {b:Bool} (hw:Wn X.N l o (qh3 S0 earlier) b) (hHv:HvW o.op e.Hv (qx9 (zA bv rs τ e.i earlier) (zw H0 earlier))):
  Seen X.N l e o (fun x=>qo0 (zR bv e.i earlier) (evT X.N (qh3 S0 earlier) x)) b (d9 S0 H0 D recs):=by
 have hslot:∀t∈usN l o,bu (d9 S0 H0 D recs).S t=bu (qh3 S0 earlier) t:=by
  intro t htu;have h1:bu (d9 S0 H0 D recs).S t=bu (d9 S0 H0 D (e::earlier)).S t:=by
   rw[hr];refine qx1 fun e' he' hd=> ?_
   cases hb:D e'.i with
   |false=>rfl
   |true=>
    exfalso;obtain⟨o',ho',hd',hm'⟩:=ht.at_ e' (by rw[hr];exact Kh _ he');cases hi:inW bv e.i e'.i with
    |true=>rw[jb2 hF.tb hcl ho' hb hi]at hD;cases hD
    |false=>
     have:=hF.aa e.i e'.i o o' (hlt e' he') he.at_ ho' he.free hi;exact(zy this).2 t (by rw[<-hd'];exact hd) htu
  rw[h1];have h2:bu (d9 S0 H0 D (e::earlier)).S t=bu (d9 S0 H0 D earlier).S t:=by
   rw[q58,if_neg (by simp[hD])]
  rw[h2];refine jf0 fun e' he' hd=> ?_
  obtain⟨o',ho',hd',hm'⟩:=hte.at_ e' he';cases hi:inW bv e'.i e.i with
  |true=>exact hW _ hi
  |false=>
   have:=hF.aa e'.i e.i o' o (he.lt e' he') ho' he.at_ hm' hi;exact absurd htu ((zy this).1 t (by rw[<-hd'];exact hd)).1
 refine⟨fun t ob hob=> ?_,fun _ x hx=> ?_,hw.slots fun t htu=>(hslot t htu).symm,fun t h1 h2=> ?_⟩
 ·have key:∀ob,(qx9 (zA bv rs τ e.i earlier) (zw H0 earlier))[t]? =some ob->ob= .gone\/(d9 S0 H0 D recs).H[t]? =some ob:=by
   intro ob hob;rcases jpl hob with hg|⟨h1,h2⟩
   ·exact .inl hg
   ·refine .inr ?_;have hlt' :t<(zw H0 earlier).length:=(Wh.1 h1).1;have e0:(d9 S0 H0 D (e::earlier)).H[t]? =(d9 S0 H0 D earlier).H[t]? /\t<(d9 S0 H0 D (e::earlier)).H.length:=by
     have:=qx0 (S0:=S0) (H0:=H0) (D:=D) (t:=t) (m:=earlier) (by rw[qm9];exact hlt') (later:=[e]);exact⟨this.2,this.1⟩
    rw[hr,(qx0 e0.2).2,e0.1,jrm hte,h1];intro e' he' h3 h4;exact hW _ (jmc (fun hz=>h2 (Ke _ hz)) e' he' h3 h4)
  rcases hHv.at_ t ob hob with hg|h1|⟨hl,ob',h1,hc⟩
  ·exact .inl hg
  ·exact(key ob h1).imp_right .inl
  ·rcases key ob' h1 with hg|h2
   ·subst hg;obtain⟨_,_,_,_,_,_,⟨_,h3,_⟩|⟨_,_,_,_,h3,_⟩⟩:=hc<;>cases h3
   ·exact .inr (.inr ⟨hl,ob',h2,hc⟩)
 ·cases x with
  |tmp t=>
   have:=hslot t (jrx hx);simp only[evT,rd,this];exact qg8 _ _
  |const v=>exact qg8 _ _
  |func f=>exact qg8 _ _
  |global g=>exact qg8 _ _
 ·exact jo8 ht e (by rw[hr];simp) hD h1 h2
end
end Go.K
namespace Go.K
open Go.M Go.RowKit
theorem jz0{δ δ' :List St}{v v' :TV}(h:rt δ' v' =some (δ,v)):δ' =δ/\v' =v:=by
 simp only[rt,Wb,Wj]at h;exact h
theorem jik{Rf:Type}{X:Ctx Rf}{op:Op}(hl:qh6 op=true){e:Operand->TV}{H:List TOb}{δ:List St}{v:TV}(h:qmb X op e H rt=some (δ,v)):δ=[]/\∀H',qmb X op e H' rt=some (δ,v):=by
 have key:(∃cv:List Bool×TV,∀H',pvT X.wr X.tt H' e op=some cv)->δ=[]/\∀H',qmb X op e H' rt=some (δ,v):=by
  rintro⟨⟨cs,u⟩,hp⟩;have h1:∀H',qmb X op e H' rt=ckL cs (rt [] u):=fun H' =>by unfold qmb;rw[hp H']
  rw[h1]at h;obtain⟨_,h2⟩:=bn h;exact⟨(jz0 h2).1.symm,fun H' =>(h1 H').trans h⟩
 cases op with
 |move x=>exact key ⟨_,fun _=>rfl⟩
 |assign x=>exact key ⟨_,fun _=>rfl⟩
 |extract x i=>
  cases hp:pvT X.wr X.tt H e (.extract x i)with
  |some cv=>exact key ⟨cv,fun H' =>hp⟩
  |none=>
   unfold qmb at h;rw[hp]at h;simp only[jx2]at h;cases hb:X.kp.length.ble H.length<;>simp[hb,jqf]at h
 |_=>simp[qh6]at hl
section
variable {R Rf : Type} {X : Ctx Rf} {l : List Oper} {bv rs τ : List Nat} {S0 : List (Nat × TV)} {H0 : List TOb} {recs : List En} {s0 : TS}
theorem TrR.at_:∀{res:List RE},TrR X l bv rs recs s0 res->∀e∈res,∃o,l[e.i]? =some o/\e.dst=o.dst/\wu e.i rs=true/\qz2 bv e.i e.δ recs=true
 |[],_,e,h=>by simp at h
 |e' ::res,ht,e,h=>by
  obtain⟨ht,o,he⟩:=ht;rcases Wr.1 h with rfl|h
  ·refine⟨o,he.at_,he.dst,he.wr,?_⟩;rcases he.run with⟨_,_,h3⟩|⟨_,h2,_⟩
   ·exact h3
   ·rw[h2];have:∀m:List En,qz2 bv e.i [] m=true:=by
     intro m
     induction m with
     |nil=>rfl
     |cons a m ih=>simp[qz2,yf,ih]
    exact this recs
  ·exact TrR.at_ ht e h
theorem TrR.split:∀{res:List RE},TrR X l bv rs recs s0 res->∀e∈res,∃later earlier o,res=later++e::earlier/\REOK X l bv rs recs s0 earlier e o/\∀e' ∈later,e.i<e'.i
 |[],_,e,h=>by simp at h
 |e1::res,ht,e,h=>by
  obtain⟨ht,o,he⟩:=ht;rcases Wr.1 h with rfl|hm
  ·exact⟨[],res,o,rfl,he,fun e' he' =>by simp at he'⟩
  ·obtain⟨later,earlier,o',h1,h3,h4⟩:=TrR.split ht e hm;refine⟨e1::later,earlier,o',by rw[h1];rfl,h3,fun e' he' => ?_⟩;rcases Wr.1 he' with rfl|he'
   ·exact he.lt e hm
   ·exact h4 e' he'
theorem jod{i:Nat}{δ:List St}:∀{recs:List En},qz2 bv i δ recs=true->∀e∈recs,inW bv e.i i=true\/yf e δ=true
 |[],_,e,h=>by simp at h
 |e' ::recs,ho,e,h=>by
  simp only[qz2,Wc,Kj]at ho;rcases Wr.1 h with rfl|h
  ·exact ho.1
  ·exact jod ho.2 e h
theorem ji7{D:Nat->Bool}{s:TS}{m:List RE}:∀{later:List RE},(∀e∈later,D e.i=false)->stR D s (later++m)=stR D s m
 |[],_=>rfl
 |e::later,h=>by
  show(if D e.i=true then _ else stR D s (later++m))=_;rw[if_neg (by simp[h e Wf])];exact ji7 fun e' he' =>h e' (We _ he')
theorem jt5{D:Nat->Bool}{s:TS}:∀{m:List RE},(∀e∈m,D e.i=true)->stR D s m=canR s m
 |[],_=>rfl
 |e::m,h=>by
  show(if D e.i=true then((stR D s m).aps e.δ).put e.dst e.v else _)=((canR s m).aps e.δ).put e.dst e.v;rw[if_pos (h e Wf),jt5 fun e' he' =>h e' (We _ he')]
theorem ji6{D D' :Nat->Bool}{s:TS}:∀{m:List RE},(∀e∈m,D e.i=D' e.i)->stR D s m=stR D' s m
 |[],_=>rfl
 |e::m,h=>by
  show(if D e.i=true then((stR D s m).aps e.δ).put e.dst e.v else stR D s m)=(if D' e.i=true then((stR D' s m).aps e.δ).put e.dst e.v else stR D' s m);rw[h e Wf,ji6 fun e' he' =>h e' (We _ he')]
theorem TrR.at2:∀{res:List RE},TrR X l bv rs recs s0 res->∀e∈res,(q1s bv e.i rs=true\/q4s e.δ=true)/\∀o,l[e.i]? =some o->qh6 o.op=true->e.δ=[]
 |[],_,e,h=>by simp at h
 |e' ::res,ht,e,h=>by
  obtain⟨ht,o,he⟩:=ht;rcases Wr.1 h with rfl|h
  ·refine⟨he.ord,fun o2 h1 hl=> ?_⟩;have:o2=o:=by have:=he.at_;rw[h1]at this;injection this
   subst this;rcases he.run with⟨_,h2,_⟩|⟨_,h2,_⟩
   ·exact(jik hl h2).1
   ·exact h2
  ·exact TrR.at2 ht e h
theorem jis{i:Nat}:∀{m:List Nat},q1s bv i m=true->∀r∈m,r=i\/inW bv r i=true\/inW bv i r=true
 |[],_,r,h=>by simp at h
 |a::m,ho,r,h=>by
  unfold q1s at ho;obtain⟨h1,h2⟩:=jj3 ho;rcases Wr.1 h with rfl|h
  ·simp only[Kj]at h1;exact h1.imp ax id
  ·exact jis h2 r h
theorem j91(ht:q6c bv 0 l=true){i j:Nat}{o:Oper}(ho:l[i]? =some o)(hj:inW bv j i=true):j<i:=by
 have hcl:q6u l (fun k=>decide (k<i)):=fun k hk m hm=>by
  have hk:k<i:=W8 hk;have hkl:k<l.length:=by have:=(Wh.1 ho).1;omega
  have hok:l[k]? =some l[k]:=Wi hkl;have hm2:m∈onN l[k]:=by rw[<-jcg hok];exact hm
  have:=(jf7 ht k _ hok).2 m hm2;exact Ws (by omega)
 have:=jpy ht hcl i o ho (fun k hk=>by
  have hk2:k∈onN o:=by rw[<-jcg ho];exact hk
  have:=(jf7 ht i o ho).2 k hk2;exact Ws (by omega)) j hj
 exact W8 this
structure Ind (e e' : RE) : Prop where
 n1 : q4s e.δ = true
 n2 : q4s e'.δ = true
 nil : e.δ = [] \/ e'.δ = []
 ne : ∀ d, e.dst = some d -> e'.dst ≠ some d
theorem jym(hF:Facts l bv rs){res:List RE}(ht:TrR X l bv rs recs s0 res){e e' :RE}(he:e∈res)(he' :e' ∈res)(hlt:e.i<e'.i)(hn:inW bv e.i e'.i=false){o o' :Oper}(ho:l[e.i]? =some o)(ho' :l[e'.i]? =some o'):
  Ind e e' /\q3k l o o' =false/\(qh6 o.op=false->e'.δ=[])/\(qh6 o'.op=false->e.δ=[]):=by
 obtain⟨o1,h1,d1,m1,_⟩:=ht.at_ e he;obtain⟨o2,h2,d2,m2,_⟩:=ht.at_ e' he';have:o1=o:=by rw[ho]at h1;injection h1 with h1;exact h1.symm
 subst this;have:o2=o' :=by rw[ho']at h2;injection h2 with h2;exact h2.symm
 subst this;obtain⟨r1,l1⟩:=ht.at2 e he;obtain⟨r2,l2⟩:=ht.at2 e' he';rcases hF.rr e.i e'.i o1 o2 hlt ho ho' m1 m2 with h|⟨hc,hl⟩
 ·rw[hn]at h;cases h
 ·have hn' :inW bv e'.i e.i=false:=by
   cases hb:inW bv e'.i e.i with
   |false=>rfl
   |true=>have:=j91 hF.tb ho hb;omega
  have nord:∀{a b:RE},a.i≠b.i->wu b.i rs=true->inW bv a.i b.i=false->inW bv b.i a.i=false->(q1s bv a.i rs=true\/q4s a.δ=true)->q4s a.δ=true:=fun{a b} hne hm w1 w2 hor=>by
   rcases hor with h|h
   ·rcases jis h b.i (jd0.1 hm)with e1|e1|e1
    ·exact absurd e1.symm hne
    ·rw[w2]at e1;cases e1
    ·rw[w1]at e1;cases e1
   ·exact h
  refine⟨⟨nord (by omega) m2 hn hn' r1,nord (by omega) m1 hn' hn r2,hl.imp (l1 _ ho) (l2 _ ho'),fun d hd=> ?_⟩,hc,fun hl' => ?_,fun hl' => ?_⟩
  ·rw[d2];exact((zy hc).1 d (by rw[<-d1];exact hd)).2
  ·rcases hl with hl|hl
   ·rw[hl']at hl;cases hl
   ·exact l2 _ ho' hl
  ·rcases hl with hl|hl
   ·exact l1 _ ho hl
   ·rw[hl']at hl;cases hl
theorem jjy:∀{δ:List St} {s s' :TS},s.H=s'.H->(s.aps δ).H=(s'.aps δ).H
 |[],_,_,h=>h
 |x::δ,s,s',h=>jjy (δ:=δ) (by simp only[TS.ap,h])
theorem jhz:∀{δ:List St} {s:TS},q4s δ=true->(s.aps δ).S=s.S
 |[],_,_=>rfl
 | .sb _::_,_,h=>by simp[q4s]at h
 | .set t o::δ,s,h=>(jhz (δ:=δ) (s:=s.ap (.set t o)) h).trans rfl
 | .new t o::δ,s,h=>(jhz (δ:=δ) (s:=s.ap (.new t o)) h).trans rfl
theorem jmx{t:Nat}:∀{δ:List St} {s s' :TS},bu s.S t=bu s'.S t->bu (s.aps δ).S t=bu (s'.aps δ).S t
 |[],_,_,h=>h
 |x::δ,s,s',h=>jmx (δ:=δ) (by
  cases x with
  |sb θ=>simp only[TS.ap,sAp,fv,h]
  |set t o=>exact h
  |new t o=>exact h)
theorem jti{δ:List St}{s:TS}{d:Option Tmp}{v:TV}(h:q4s δ=true):Ext ((s.put d v).aps δ) ((s.aps δ).put d v):=by
 refine⟨?_,fun t=> ?_⟩
 ·rw[q94];exact jjy (by rw[q94])
 ·rw[jhz h,i7,i7];simp only[jg,jhz h]
theorem jt6{D:Nat->Bool}{s:TS}{re:RE}{earlier:List RE}(hD:D re.i=false)(he:∀e∈earlier,e.i≠re.i):∀{later:List RE},(∀e∈later,e.i≠re.i)->(∀e∈later,D e.i=true->Ind re e)->
  Ext (stR (qn D re.i) s (later++re::earlier)) (((stR D s (later++re::earlier)).aps re.δ).put re.dst re.v)
 |[],_,_=>by
  show Ext (if qn D re.i re.i=true then((stR (qn D re.i) s earlier).aps re.δ).put re.dst re.v else _) (((if D re.i=true then _ else stR D s earlier).aps re.δ).put re.dst re.v);rw[if_pos jnc,if_neg (by simp[hD]),ji6 (D:=qn D re.i) (D' :=D) fun e hm=>qor (he e hm)];exact Ext.refl _
 |e::later,hl,hi=>by
  have ih:=jt6 (s:=s) hD he (later:=later) (fun e' he' =>hl e' (We _ he')) (fun e' he' =>hi e' (We _ he'));have hne:=hl e Wf;show Ext (if qn D re.i e.i=true then((stR (qn D re.i) s (later++re::earlier)).aps e.δ).put e.dst e.v else stR (qn D re.i) s (later++re::earlier)) (((if D e.i=true then((stR D s (later++re::earlier)).aps e.δ).put e.dst e.v else stR D s (later++re::earlier)).aps re.δ).put re.dst re.v);rw[qor hne];cases hb:D e.i with
  |false=>
   rw[if_neg (by simp),if_neg (by simp)];exact ih
  |true=>
   rw[if_pos rfl,if_pos rfl];have hI:=hi e Wf hb;generalize stR D s (later++re::earlier)=Y at ih;have h1:=((ih.aps e.δ).put e.dst e.v).trans ((jti hI.n2).put e.dst e.v);have h2:Ext (((Y.aps e.δ).put e.dst e.v).aps re.δ) (((Y.aps e.δ).aps re.δ).put e.dst e.v):=jti hI.n1;have h3:(Y.aps re.δ).aps e.δ=(Y.aps e.δ).aps re.δ:=by
    rcases hI.nil with h|h<;>rw[h]<;>rfl
   rw[h3]at h1;refine h1.trans (Ext.trans ?_ (h2.put re.dst re.v).symm);generalize(Y.aps e.δ).aps re.δ=Z;refine⟨by simp only[q94],fun t=> ?_⟩;rw[i7,i7,i7,i7];simp only[jg];by_cases a:e.dst=some t
   ·by_cases b:re.dst=some t
    ·exact absurd a (hI.ne t b)
    ·simp[a,b]
   ·simp[a]
theorem ji8{D:Nat->Bool}{s:TS}{re:RE}{earlier:List RE}{t:Nat}(hD:D re.i=false)(he:∀e∈earlier,D e.i=false->q4s e.δ=true/\e.dst≠some t):∀{later:List RE},(∀e∈later,D e.i=true->q4s e.δ=true/\e.dst≠some t)->
  bu (stR D s (later++re::earlier)).S t=bu (canR s earlier).S t
 |[],_=>by
  show bu (if D re.i=true then _ else stR D s earlier).S t=_;rw[if_neg (by simp[hD])];clear hD
  induction earlier with
  |nil=>rfl
  |cons e m ih=>
   have ih:=ih fun e' he' =>he e' (We _ he')
   show bu (if D e.i=true then((stR D s m).aps e.δ).put e.dst e.v else stR D s m).S t=bu (((canR s m).aps e.δ).put e.dst e.v).S t;cases hb:D e.i with
   |true=>
    rw[if_pos rfl,i7,i7];simp only[jg];split
    ·rfl
    ·exact jmx ih
   |false=>
    obtain⟨h1,h2⟩:=he e Wf hb;rw[if_neg (by simp),i7];simp only[jg,if_neg h2,jhz h1];exact ih
 |e::later,hl=>by
  have ih:=ji8 (s:=s) hD he (later:=later) fun e' he' =>hl e' (We _ he')
  show bu (if D e.i=true then((stR D s (later++re::earlier)).aps e.δ).put e.dst e.v else stR D s (later++re::earlier)).S t=_;cases hb:D e.i with
  |true=>
   obtain⟨h1,h2⟩:=hl e Wf hb;rw[if_pos rfl,i7];simp only[jg,if_neg h2,jhz h1];exact ih
  |false=>
   rw[if_neg (by simp)];exact ih
theorem jo9{D:Nat->Bool}{s:TS}{re:RE}{earlier:List RE}(hD:D re.i=false)(he:∀e∈earlier,D e.i=false->e.δ=[]):∀{later:List RE},(∀e∈later,D e.i=true->e.δ=[])->
  (stR D s (later++re::earlier)).H=(canR s earlier).H
 |[],_=>by
  show(if D re.i=true then _ else stR D s earlier).H=_;rw[if_neg (by simp[hD])];clear hD
  induction earlier with
  |nil=>rfl
  |cons e m ih=>
   have ih:=ih fun e' he' =>he e' (We _ he')
   show(if D e.i=true then((stR D s m).aps e.δ).put e.dst e.v else stR D s m).H=(((canR s m).aps e.δ).put e.dst e.v).H;cases hb:D e.i with
   |true=>
    rw[if_pos rfl,q94,q94];exact jjy ih
   |false=>
    rw[if_neg (by simp),q94,he e Wf hb];exact ih
 |e::later,hl=>by
  have ih:=jo9 (s:=s) hD he (later:=later) fun e' he' =>hl e' (We _ he')
  show(if D e.i=true then((stR D s (later++re::earlier)).aps e.δ).put e.dst e.v else stR D s (later++re::earlier)).H=_;cases hb:D e.i with
  |true=>
   rw[if_pos rfl,q94,hl e Wf hb];exact ih
  |false=>
   rw[if_neg (by simp)];exact ih
structure Sim (Zt Zs : Nat -> Prop) (s s' : TS) : Prop where
 len : s.H.length = s'.H.length
 H : ∀ t : Nat, ¬ Zt t -> s.H[t]? = s'.H[t]?
 S : ∀ t, ¬ Zs t -> bu s.S t = bu s'.S t
theorem Sim.ap{Zt Zs:Nat->Prop}{s s' :TS}(h:Sim Zt Zs s s')(x:St):Sim Zt Zs (s.ap x) (s'.ap x):=by
 cases x with
 |sb θ=>exact⟨by simp only[TS.ap,hAp,c7];exact h.len,fun t ht=>by simp only[TS.ap,hAp,ij,h.H t ht],fun t ht=>by simp only[TS.ap,sAp,fv,h.S t ht]⟩
 |set t' o=>exact⟨by simp only[TS.ap,hAp,WB];exact h.len,fun t ht=>by simp only[TS.ap,hAp,KY,h.len,h.H t ht],h.S⟩
 |new t' o=>
  refine⟨?_,fun t ht=> ?_,h.S⟩
  ·simp only[TS.ap,hAp,fq,h.len];cases Nat.blt t' s'.H.length<;>simp[h.len]
  ·simp only[TS.ap,hAp,fq,h.len];cases Nat.blt t' s'.H.length with
   |true=>simp only[WQ,KY,h.len,h.H t ht]
   |false=>simp only[W9,Hg,h.len,h.H t ht]
theorem Sim.aps{Zt Zs:Nat->Prop}:∀{δ:List St} {s s' :TS},Sim Zt Zs s s' ->Sim Zt Zs (s.aps δ) (s'.aps δ)
 |[],_,_,h=>h
 |x::δ,s,s',h=>Sim.aps (δ:=δ) (h.ap x)
theorem Sim.put{Zt Zs:Nat->Prop}{s s' :TS}(h:Sim Zt Zs s s')(d:Option Tmp)(v:TV):Sim Zt Zs (s.put d v) (s'.put d v):=by
 rw[i7,i7];exact⟨h.len,h.H,fun t ht=>by simp only[jg,h.S t ht]⟩
theorem Sim.canR{Zt Zs:Nat->Prop}{s s' :TS}(h:Sim Zt Zs s s'):∀(res:List RE),Sim Zt Zs (canR s res) (canR s' res)
 |[]=>h
 |e::res=>((Sim.canR h res).aps (δ:=e.δ)).put e.dst e.v
theorem Ext.canR{s s' :TS}(h:Ext s s'):∀(res:List RE),Ext (canR s res) (canR s' res)
 |[]=>h
 |e::res=>((Ext.canR h res).aps e.δ).put e.dst e.v
theorem jt3(ht:Tr X l bv rs τ S0 H0 recs)(D:Nat->Bool):Sim (fun t=>∃e∈recs,D e.i=false/\e.n<=t/\t<e.n+e.news.length) (fun t=>∃e∈recs,D e.i=false/\e.dst=some t) (d9 S0 H0 D recs) ⟨qh3 S0 recs,zw H0 recs⟩:=by
 refine⟨qm9 D recs,fun t hz=>jrm ht fun e he h1 h2=> ?_,fun t hz=>jf0 fun e he h1=> ?_⟩
 ·cases hb:D e.i with
  |true=>rfl
  |false=>exact absurd ⟨e,he,hb,h1,h2⟩ hz
 ·cases hb:D e.i with
  |true=>rfl
  |false=>exact absurd ⟨e,he,hb,h1⟩ hz
end
section
variable {U : Nat -> Prop} {w0 : World} {J0 : Pl} {K : Nat -> Bool} {P : Program} {R Rf : Type}
theorem zay(H:List TOb)(n:Nat):vw (H++List.replicate n .gone)=vw H:=by
 funext T;have key:∀t:Nat,(H++List.replicate n TOb.gone)[t]? =H[t]? \/(H[t]? =none/\(H++List.replicate n TOb.gone)[t]? =some .gone):=by
  intro t;rcases Wz t H.length with h1|h1
  ·exact .inl (Wo h1)
  ·rw[Wu h1,Wp h1,KF];split
   ·exact .inr ⟨rfl,rfl⟩
   ·exact .inl rfl
 cases T with
 |o t=>rcases key t with e|⟨e1,e2⟩<;>simp only[vw]<;>first|rw[e]|(rw[e1,e2];rfl)
 |r t i f=>rcases key t with e|⟨e1,e2⟩<;>simp only[vw]<;>first|rw[e]|(rw[e1,e2];rfl)
theorem jck{δ δ' :List St}{v v' :TV}(h:rt δ' v' =some (δ,v)):δ' =δ/\v' =v:=by
 simp only[rt,Wb,Wj]at h;exact h
theorem jkg{X:Ctx Rf}(hX:CtxOK P X)(hmix:P.follows .mixedOrders=true)(hK:∀t,bt X.kp t=false->K t=false){id:Nat}{l:List Oper}{bv rs τ:List Nat}{s:TS}{k:TS->Option R}{r:R}(h:jx1 X l bv rs τ s k=some r)
  {Q:Exit->Act->World->Prop} (hQ:∀s' a' w' J',dr U w0 J0 K X.N s' a' w' J' ->k s' =some r->Q .normal a' w') {a:Act} {w:World} {J:Pl} (hr:dr U w0 J0 K X.N s a w J):(Code.region id l.toArray true).wp P Q a w:=by
 unfold jx1 at h;obtain⟨hdr,h⟩:=ai h;have hF:=facts hdr;obtain⟨recs,S',htr,hcov,hS',h⟩:=j3p (S0:=s.S) (H0:=s.H) l 0 s.S [] rfl trivial (fun e he=>by simp at he) (fun j hj=>by omega) (fun _=>rfl) h;obtain⟨res,sf,htrR,hcovR,hsf,hk⟩:=j3q (s0:=⟨qh3 s.S recs,zw s.H recs⟩) l 0 ⟨S',zw s.H recs⟩ [] rfl trivial (fun e he=>by simp at he) (fun j hj=>by omega) ⟨rfl,hS'⟩ h;clear h;have hback:∀i k,k∈q7t l i->k<i:=by
  intro i k hk;cases ho:l[i]? with
  |none=>simp[q7t,ho]at hk
  |some o=>
   rw[jcg ho]at hk;have:=(jf7 hF.tb i o ho).2 k hk;omega
 refine jx0 hmix hback (fun D a w=>∃J,dr U w0 J0 K X.N (stR D (d9 s.S s.H D recs) res) a w J) ?_ ?_ ?_
 ·
  intro D i o a w hcl hbey ho hDi hon ⟨J,hr⟩ KK hKK;have hW:=fun j hj=>jpy hF.tb hcl i o ho hon j hj
  have hil:i<l.length:=(Wh.1 ho).1;cases hm:wu i rs with
  |false=>
   obtain⟨e,hem,rfl⟩:=hcov i hil hil hm;obtain⟨later,earlier,o',hrec,hte,he,hlt⟩:=htr.split e hem;have hoo:o' =o:=by have:=he.at_;rw[ho]at this;injection this with this;exact this.symm
   subst hoo;have hRes:∀re∈res,D re.i=true->yf e re.δ=true/\∀t,re.dst=some t->e.dst≠some t/\t∉usN l o' :=by
    intro re hre hD;obtain⟨o2,h1,h2,h3,h4⟩:=htrR.at_ re hre;have hni:inW bv e.i re.i=false:=by
     cases hb:inW bv e.i re.i with
     |false=>rfl
     |true=>rw[jb2 hF.tb hcl h1 hD hb]at hDi;cases hDi
    refine⟨?_,fun t ht=> ?_⟩
    ·rcases jod h4 e hem with hb|hb
     ·rw[hni]at hb;cases hb
     ·exact hb
    ·rw[h2]at ht;rw[he.dst];rcases Nat.lt_trichotomy e.i re.i with hlt' |heq|hgt
     ·have hc:=zy (hF.aa e.i re.i o' o2 hlt' ho h1 hm hni);exact⟨fun e1=>(hc.1 t e1).2 ht,hc.2 t ht⟩
     ·rw[heq]at hm;rw[hm]at h3;cases h3
     ·have hc:=zy (hF.ra re.i e.i o2 o' hgt h1 ho h3 hm);exact⟨(hc.1 t ht).2,(hc.1 t ht).1⟩
   have hnew:Ext (stR (qn D e.i) (d9 s.S s.H (qn D e.i) recs) res) (apE e (stR D (d9 s.S s.H D recs) res))/\e.n+e.news.length<=(stR D (d9 s.S s.H D recs) res).H.length:=by
    refine jt4 (by rw[qm9];exact(Tr.bnd htr e hem).2) (jt2 htr e hem hDi fun e' he' hlt' hD' d hd=> ?_) (fun re hre=> ?_) (fun re hre hD=>⟨(hRes re hre hD).1,fun t ht=>((hRes re hre hD).2 t ht).1⟩)
    ·obtain⟨o2,h1,h2,h3⟩:=htr.at_ e' he';have hni:inW bv e.i e'.i=false:=by
      cases hb:inW bv e.i e'.i with
      |false=>rfl
      |true=>rw[jb2 hF.tb hcl h1 hD' hb]at hDi;cases hDi
     have hc:=zy (hF.aa e.i e'.i o' o2 hlt' ho h1 hm hni);rw[he.dst];exact fun e1=>(hc.1 d e1).2 (by rw[<-h2];exact hd)
    ·obtain⟨o2,h1,h2,h3,h4⟩:=htrR.at_ re hre;exact qor fun e1=>by rw[e1,hm]at h3;cases h3
   have hgo:∀a' w' J',dr U w0 J0 K X.N (apE e (stR D (d9 s.S s.H D recs) res)) a' w' J' ->KK a' w' :=fun a' w' J' h' =>hKK a' w' ⟨J',h'.ext hnew.1.symm⟩
   rcases he.run with⟨hw,hxs,hHv,δ,hst,hobs⟩|⟨hw,hv,hnews,hHv,hxs⟩
   ·have hseen:=jf1 he.wk (fun _=>hxs) (j4q hF hcl hrec htr hte he hlt hDi hW hw hHv) (D:=D) (res:=res) (fun re hre hD=>⟨(hRes re hre hD).1,fun t ht=>((hRes re hre hD).2 t ht).2⟩);rw[qcv hr hseen.gd,if_pos rfl];have hdoes:qq P U w0 J0 K X.N o' (stR D (d9 s.S s.H D recs) res) a w rt (δ,e.v):=by
     cases hld:zd o'.op with
     |true=>
      refine jwh hX hr (jv6 hr.hr.sees fun t ob hob=> ?_) hld (fun x hx=>Wk.vr _ _ _ (hseen.xs rfl x hx) (hr.ev x)) hst;rcases hseen.hv t ob hob with h1|h1|⟨_,h1⟩
      ·exact .inl h1
      ·exact .inr (.inl h1)
      ·exact .inr (.inr h1)
     |false=>
      have hl:HLe (fun t=>e.n<=t/\t<e.n+e.news.length) e.Hv (stR D (d9 s.S s.H D recs) res).H:=by
       refine⟨fun t ob hob=> ?_,fun t _ hf=> .inr (hseen.fr t hf.1 hf.2),?_⟩
       ·rcases hseen.hv t ob hob with h1|h1|⟨h1,_⟩
        ·exact .inl h1
        ·exact .inr h1
        ·rw[hld]at h1;cases h1
       ·have:=hHv.len;rw[q9a,<-he.n]at this;omega
      exact jcl hX hr hl hK (fun x hx=>Wk.vr _ _ _ (hseen.xs rfl x hx) (hr.ev x)) (fun δ' v' hrt t o hmem=>jd9 hobs t o (by rw[<-(jck hrt).1];exact hmem)) hst
    obtain⟨δ',v',hrt,hdo⟩:=hdoes;obtain⟨rfl,rfl⟩:=jck hrt;refine hdo Q KK fun a' w' J' h' =>hgo a' w' J' ?_
    rw[jmw _ hobs hnew.2,i7,<-he.dst]at h';exact h'
   ·have hseen:=jf1 (b:=false) he.wk (fun hb=>by cases hb) (j4q hF hcl hrec htr hte he hlt hDi hW hw ⟨fun t ob hob=>by rw[hHv]at hob;simp at hob,by rw[hHv];exact W7 _⟩) (D:=D) (res:=res) (fun re hre hD=>⟨(hRes re hre hD).1,fun t ht=>((hRes re hre hD).2 t ht).2⟩);rw[qcv hr hseen.gd,if_neg (by simp)];refine hgo _ _ J ?_;have:=hr.put o'.dst (A:= .undef) (v:=undef) (by simp[VR]);rw[i7]at this;unfold apE;rw[hnews,hv,he.dst];exact this
  |true=>
   obtain⟨re,hrem,rfl⟩:=hcovR i hil hil hm;obtain⟨later,earlier,o',hres,he,hlt⟩:=htrR.split re hrem;have hoo:o' =o:=by have:=he.at_;rw[ho]at this;injection this with this;exact this.symm
   subst hoo;have hnW:∀re' ∈later,D re'.i=true->inW bv re.i re'.i=false:=by
    intro re' hre' hb;obtain⟨o2,h1,_⟩:=htrR.at_ re' (by rw[hres];exact Kh _ hre');cases hi:inW bv re.i re'.i with
    |false=>rfl
    |true=>rw[jb2 hF.tb hcl h1 hb hi]at hDi;cases hDi
   have hlater:∀re' ∈later,D re'.i=true->Ind re re' /\(∀d,re'.dst=some d->d∉usN l o')/\(qh6 o'.op=false->re'.δ=[]):=by
    intro re' hre' hb;have hm' :re' ∈res:=by rw[hres];exact Kh _ hre'
    obtain⟨o2,h1,h2,_⟩:=htrR.at_ re' hm';obtain⟨i1,i2,i3,_⟩:=jym hF htrR hrem hm' (hlt re' hre') (hnW re' hre' hb) ho h1;exact⟨i1,fun d hd=>(zy i2).2 d (by rw[<-h2];exact hd),i3⟩
   have hearl:∀re' ∈earlier,D re'.i=false->Ind re' re/\(∀d,re'.dst=some d->d∉usN l o')/\(qh6 o'.op=false->re'.δ=[]):=by
    intro re' hre' hb;have hm' :re' ∈res:=by rw[hres];exact Ke _ (We _ hre')
    obtain⟨o2,h1,h2,_⟩:=htrR.at_ re' hm';have hn:inW bv re'.i re.i=false:=by
     cases hi:inW bv re'.i re.i with
     |false=>rfl
     |true=>rw[hW _ hi]at hb;cases hb
    obtain⟨i1,i2,_,i4⟩:=jym hF htrR hm' hrem (he.lt re' hre') hn h1 ho;exact⟨i1,fun d hd=>((zy i2).1 d (by rw[<-h2];exact hd)).1,i4⟩
   have hst1:Ext (stR (qn D re.i) (d9 s.S s.H (qn D re.i) recs) res) (((stR D (d9 s.S s.H D recs) res).aps re.δ).put re.dst re.v):=by
    have e1:d9 s.S s.H (qn D re.i) recs=d9 s.S s.H D recs:=q83 fun e he' =>by
     obtain⟨o2,h1,h2,h3⟩:=htr.at_ e he';exact qor fun e2=>by rw[e2,hm]at h3;cases h3
    rw[e1,hres];exact jt6 hDi (fun e hem=>by have:=he.lt e hem;omega) (fun e hem=>by have:=hlt e hem;omega) fun e hem hb=>(hlater e hem hb).1
   have hsim:=(jt3 htr D).canR earlier;have hslot:∀t∈usN l o',bu (stR D (d9 s.S s.H D recs) res).S t=bu (canR ⟨qh3 s.S recs,zw s.H recs⟩ earlier).S t:=by
    intro t htu;have h0:bu (stR D (d9 s.S s.H D recs) res).S t=bu (canR (d9 s.S s.H D recs) earlier).S t:=by
     rw[hres];refine ji8 hDi (fun e hem hb=> ?_) fun e hem hb=> ?_
     ·obtain⟨i1,i2,_⟩:=hearl e hem hb;exact⟨i1.n1,fun e1=>i2 t e1 htu⟩
     ·obtain⟨i1,i2,_⟩:=hlater e hem hb;exact⟨i1.n2,fun e1=>i2 t e1 htu⟩
    refine h0.trans (hsim.S t ?_);rintro⟨e,hem,hDe,hde⟩;obtain⟨o2,h1,h2,h3⟩:=htr.at_ e hem;rcases Nat.lt_trichotomy e.i re.i with hlt' |heq|hgt
    ·cases hb:inW bv e.i re.i with
     |true=>rw[hW _ hb]at hDe;cases hDe
     |false=>exact((zy (hF.aa e.i re.i o2 o' hlt' h1 ho h3 hb)).1 t (by rw[<-h2];exact hde)).1 htu
    ·rw[heq,hm]at h3;cases h3
    ·exact(zy (hF.ra re.i e.i o' o2 hgt ho h1 hm h3)).2 t (by rw[<-h2];exact hde) htu
   rcases he.run with⟨hw,hst,hok⟩|⟨hw,hδ,hv⟩
   ·rw[qcv hr (hw.slots fun t ht=>(hslot t ht).symm),if_pos rfl];have hxs:∀x∈o'.op.operands,VR (gr U (vw (stR D (d9 s.S s.H D recs) res).H) w J) (qo0 (zR bv re.i recs) (evT X.N (canR ⟨qh3 s.S recs,zw s.H recs⟩ earlier).S x)) (a.eval x):=by
     intro x hx;refine Wk.vr _ _ _ ?_ (hr.ev x);cases x with
     |tmp t=>
      simp only[evT,rd,hslot t (jrx hx)];exact qg8 _ _
     |const v=>exact qg8 _ _
     |func f=>exact qg8 _ _
     |global g=>exact qg8 _ _
    have hdoes:qq P U w0 J0 K X.N o' (stR D (d9 s.S s.H D recs) res) a w rt (re.δ,re.v):=by
     cases hli:qh6 o'.op with
     |true=>
      obtain⟨hδ,hst'⟩:=jik hli hst;have hl:HLe (fun _=>False) [] (stR D (d9 s.S s.H D recs) res).H:=⟨fun t ob hob=>by simp at hob,fun t _ hf=>hf.elim,W7 _⟩;exact jcl hX hr hl hK hxs (fun δ' v' hrt t o hmem=>by rw[(jck hrt).1,hδ]at hmem;simp at hmem) (hst' [])
     |false=>
      have hH:(stR D (d9 s.S s.H D recs) res).H=(canR (d9 s.S s.H D recs) earlier).H:=by
       rw[hres];exact jo9 hDi (fun e hem hb=>(hearl e hem hb).2.2 hli) fun e hem hb=>(hlater e hem hb).2.2 hli
      have hl:HLe (fun _=>True) (qx9 (zR bv re.i recs) (canR ⟨qh3 s.S recs,zw s.H recs⟩ earlier).H) (stR D (d9 s.S s.H D recs) res).H:=by
       rw[hH];refine⟨fun t ob hob=> ?_,fun t ht _=> .inl (Wp (by rw[hsim.len];rw[q9a]at ht;exact ht)),by rw[q9a,hsim.len];exact Wg _⟩;rcases jpl hob with hg|⟨h1,h2⟩
       ·exact .inl hg
       ·refine .inr ?_;rw[hsim.H t,h1];rintro⟨e,hem,hDe,h3,h4⟩;rw[hW _ (jmc h2 e hem h3 h4)]at hDe;cases hDe
      exact jcl hX hr hl hK hxs (fun _ _ _ _ _ _=>trivial) hst
    obtain⟨δ',v',hrt,hdo⟩:=hdoes;obtain⟨rfl,rfl⟩:=jck hrt;refine hdo Q KK fun a' w' J' h' =>hKK a' w' ⟨J',?_⟩
    rw[<-he.dst]at h';exact h'.ext hst1.symm
   ·rw[qcv hr (hw.slots fun t ht=>(hslot t ht).symm),if_neg (by simp)];refine hKK _ _ ⟨J,?_⟩;have h' :=hr.put o'.dst (A:= .undef) (v:=undef) (by simp[VR]);rw[hδ,hv,he.dst]at hst1;exact h'.ext hst1.symm
 ·
  intro D a w hall hbey ⟨J,hr⟩;have e1:Ext (d9 s.S s.H D recs) ⟨qh3 s.S recs,zw s.H recs⟩:=by
   have hs:=jt3 htr D;have hno:∀e∈recs,D e.i=true:=fun e he=>by
    obtain⟨o2,h1,_⟩:=htr.at_ e he;exact hall _ (Wh.1 h1).1
   refine⟨KX fun t=>hs.H t ?_,fun t=>hs.S t ?_⟩
   ·rintro⟨e,he,hb,_⟩;rw[hno e he]at hb;cases hb
   ·rintro⟨e,he,hb,_⟩;rw[hno e he]at hb;cases hb
  have e2:stR D (d9 s.S s.H D recs) res=canR (d9 s.S s.H D recs) res:=jt5 fun re hre=>by
   obtain⟨o2,h1,_⟩:=htrR.at_ re hre;exact hall _ (Wh.1 h1).1
  rw[e2]at hr;exact hQ sf a w J ((hr.ext (e1.canR res)).ext hsf.symm) hk
 ·
  have e2:stR (fun _=>false) (d9 s.S s.H (fun _=>false) recs) res=d9 s.S s.H (fun _=>false) recs:=by
   have:=ji7 (D:=fun _=>false) (s:=d9 s.S s.H (fun _=>false) recs) (m:=[]) (later:=res) fun _ _=>rfl
   rw[Kx]at this;exact this
  refine⟨J,?_⟩;rw[e2];have hpad:∀m:List En,(d9 s.S s.H (fun _=>false) m).S=s.S/\vw (d9 s.S s.H (fun _=>false) m).H=vw s.H:=by
   intro m
   induction m with
   |nil=>exact⟨rfl,rfl⟩
   |cons e m ih=>
    rw[q58,if_neg (by simp)];exact⟨ih.1,(zay _ _).trans ih.2⟩
  obtain⟨h1,h2⟩:=hpad recs;have hr' :=hr.heapEq (w' :={w with drawn:=w.drawn+1}) rfl rfl rfl rfl;show ARel _ _ _ _ _ _ _ _ _ _;rw[h1,h2];exact hr'
end
end Go.K
namespace Go.K
open Go.M Go.RowKit
mutual
inductive Sh where
 | d (fr : Bool) (t : Ty)
 | rp (fr : Bool) (t : Ty)
 | own (i : Nat)
 | kid (i f : Nat)
 | ptr (i : Nat)
 | mp (i : Nat)
 | dm (fr : Bool) (kt vt : Ty)
 | it
 | e
 | fn (f : FuncId) (l : ShL)
 | agg (l : ShL)
 | nl (b : Bool) (s : Sh)
 | nf (s : Sh)
inductive ShL where
 | nil
 | cons (s : Sh) (l : ShL)
end
inductive Hs where
 | arr (ty : TypeId) (md : Md) (its : List TypeId) (t : Ty)
 | cs (ty : TypeId) (sz n : Nat) (l : ShL)
 | mp (kt vt : Ty)
 | mo (kt u : Ty) (ety : TypeId)
mutual
def Sh.den:Sh->Type
 | .d _ t=>t.den
 | .rp _ t=>t.den
 | .own _=>Unit
 | .kid _ _=>Nat
 | .ptr _=>Unit
 | .mp _=>Unit
 | .dm _ kt vt=>List (kt.den×vt.den)
 | .it=>Nat
 | .e=>Unit
 | .fn _ l=>l.den
 | .agg l=>l.den
 | .nl _ s=>s.den
 | .nf s=>Option Bool×s.den
def ShL.den:ShL->Type
 | .nil=>Unit
 | .cons s l=>s.den×l.den
end
def Hs.den:Hs->Type
 | .arr _ _ _ t=>List t.den
 | .cs _ _ _ l=>l.den
 | .mp kt vt=>List (kt.den×vt.den)
 | .mo kt u _=>List (kt.den×List u.den)
def jfr:List (Nat×Sh)->Type
 |[]=>Unit
 |p::l=>p.2.den×jfr l
def na:List Hs->Type
 |[]=>Unit
 |p::l=>p.den×na l
def jgb(fr:Bool):(t:Ty)->t.den->TV
 | .int k,n=> .int k n
 | .bool,b=> .bool b
 | .str,s=> .val (.string s)
 | .slice t,xs=> .sl fr t xs
 | .struct l,x=> .agg (l.cells fr x)
 | .tree l m,x=> .agg (Ty.cells fr (.tree l m) x)
mutual
def Sh.enc:(s:Sh)->s.den->TV
 | .d fr t,x=>jgb fr t x
 | .rp fr t,x=> .rptr fr t [x] (.ofNat 0) 0
 | .own i,_=> .own (.o i)
 | .kid i f,x=> .own (.r i x f)
 | .ptr i,_=> .ptr (.o i) (.ofNat 0) 0
 | .mp i,_=> .mp (.o i)
 | .dm fr kt vt,es=> .dm fr kt vt es
 | .it,r=> .val (.pointer (some ⟨r,0,none⟩))
 | .e,_=> .val (.slice none 0 0)
 | .fn f l,x=> .fn f (l.enc x)
 | .agg l,x=> .agg (l.enc x)
 | .nl b s,x=> .nl (some b) (s.enc x)
 | .nf s,x=> .nl x.1 (s.enc x.2)
def ShL.enc:(l:ShL)->l.den->List TV
 | .nil,_=>[]
 | .cons s l,x=>s.enc x.1::l.enc x.2
end
def ShL.len:ShL->Nat
 | .nil=>0
 | .cons _ l=>l.len+1
theorem ShL.enc_len:∀(l:ShL) (x:l.den),(l.enc x).length=l.len
 | .nil,_=>rfl
 | .cons s l,x=>by simp[ShL.enc,ShL.len,ShL.enc_len l x.2]
def Hs.enc:(h:Hs)->h.den->TOb
 | .arr ty md its t,xs=> .arr ty md its t xs
 | .cs ty sz n l,x=> .cs ty sz n (l.enc x)
 | .mp kt vt,es=> .mp kt vt es
 | .mo kt u ety,es=> .mo kt u ety es none
def qiw:(l:List (Nat×Sh))->jfr l->List (Nat×TV)
 |[],_=>[]
 |p::l,x=>(p.1,p.2.enc x.1)::qiw l x.2
def du:(l:List Hs)->na l->List TOb
 |[],_=>[]
 |p::l,x=>p.enc x.1::du l x.2
structure Shp where
 sl : List (Nat × Sh)
 hp : List Hs
def Shp.den(h:Shp):Type:=jfr h.sl×na h.hp
def Shp.enc(h:Shp)(x:h.den):TS:=⟨qiw h.sl x.1,du h.hp x.2⟩
abbrev Rho:=List (Option Nat)
def qe(tg:Nat):Rho->Bool
 |[]=>false
 |some t::l=>Nat.beq t tg||qe tg l
 |none::l=>qe tg l
def qxa:Rho->Bool
 |[]=>true
 |some t::l=> !qe t l&&qxa l
 |none::l=>qxa l
def q7h(fr fr' :Bool):Bool:= !fr||fr'
def jny(H:List TOb):TG->Option (Bool×(v:Ty)×List v.den)
 | .o t=>
  match H[t]? with
  |some (.arr _ md _ u xs)=>
   match md with
   | .fz fr=>some (fr||u.flat,⟨u,xs⟩)
   | .own=>some (true,⟨u,xs⟩)
   |_=>none
  |_=>none
 | .r t i f=>
  match H[t]? with
  |some (.arr _ .own _ u xs)=>
   match ek u (xs.getD i u.dft) f with
   |some y=>some (true,y)
   |none=>none
  |_=>none
def qsw(bo:Bool)(ρ:Rho)(H:List TOb):TV->TV
 | .own T=>
  match jny H T with
  |some (fr,⟨u,xs⟩)=>bif !qe T.ob ρ then .sl (fr&& !bo) u xs else .any
  |none=> .any
 | .ownS T off n=>
  match jny H T with
  |some (fr,⟨u,xs⟩)=>bif !qe T.ob ρ then .sl (fr&& !bo) u ((xs.drop off).take n)else .any
  |none=> .any
 | .int k n=> .int k n
 | .bool b=> .bool b
 | .val u=> .val u
 | .e0=> .e0
 | .sl fr t xs=> .sl fr t xs
 |_=> .any
def qo5(bo:Bool)(ρ:Rho)(H:List TOb):List TV->List TV
 |[]=>[]
 |v::l=>qsw bo ρ H v::qo5 bo ρ H l
def qnj(fr:Bool)(t:Ty)(cs:List TV):Option t.den:=
 match t.pack1 cs with
 |some (x,g)=>bif q7h fr g then some x else none
 |none=>none
def j7h(H:List TOb):TV->Option (Nat×Nat×Nat×List TV)
 | .own (.o tg)=>match H[tg]? with|some (.cs _ sz n cs)=>some (tg,sz,n,cs)|_=>none
 |_=>none
def j7m(fr:Bool)(t:Ty)(n:Nat)(cs:List TV):Option (List t.den):=
 match t.packN n cs with
 |some (xs,g)=>bif q7h fr g then some xs else none
 |none=>none
def zbk(bo:Bool)(ρ:Rho)(H:List TOb)(fr:Bool):(t:Ty)->TV->Option t.den
 | .struct l,v=>match v with| .agg cs=>qnj fr (.struct l) (qo5 bo ρ H cs)|_=>none
 | .tree l m,v=>match v with| .agg cs=>qnj fr (.tree l m) (qo5 bo ρ H cs)|_=>none
 | .int k,v=>qnj fr (.int k) [v]
 | .bool,v=>qnj fr .bool [v]
 | .str,v=>qnj fr .str [v]
 | .slice t,v=>
  match j7h H v with
  |some (tg,sz,n,cs)=>bif !qe tg ρ&&Nat.beq sz t.sz&&q7h fr (!bo)then j7m fr t n (qo5 bo ρ H cs)else none
  |none=>qnj fr (.slice t) [qsw bo ρ H v]
def zbh{t u:Ty}(h:t=u)(x:t.den):u.den:=h▸x
def jxv(bo:Bool)(ρ:Rho)(H:List TOb)(fr:Bool)(t:Ty):TV->Option t.den
 | .rptr fr' t' [x] (.ofNat 0) 0=>match t'.eq? t with|some ⟨h⟩=>bif q7h fr fr' then some (zbh h x)else none|none=>none
 | .ptr (.o tg) (.ofNat 0) 0=>
  match H[tg]? with
  |some (.cs _ sz n cs)=>bif !qe tg ρ&&Nat.beq n 1&&Nat.beq sz t.sz&&q7h fr (!bo)then qnj fr t (qo5 bo ρ H cs)else none
  |_=>none
 |_=>none
def jsg{kt vt kt' vt' :Ty}(h1:kt' =kt)(h2:vt' =vt)(es:List (kt'.den×vt'.den)):List (kt.den×vt.den):=h1▸h2▸es
def zbi{kt u kt' u' :Ty}(h1:kt' =kt)(h2:u' =u)(es:List (kt'.den×List u'.den)):List (kt.den×List u.den):=h1▸h2▸es
def j7l(bo:Bool)(ρ:Rho)(H:List TOb)(fr:Bool)(kt vt:Ty)(v:TV):Option (List (kt.den×vt.den)):=
 match v with
 | .dm fr' kt' vt' es=>
  match kt'.eq? kt,vt'.eq? vt with
  |some ⟨h1⟩,some ⟨h2⟩=>bif q7h fr fr' then some (jsg h1 h2 es)else none
  |_,_=>none
 | .val (.map none)=>some []
 | .mp (.o tg)=>
  match H[tg]? with
  |some (.mo kt' u ety es none)=>
   match kt'.eq? kt,(Ty.slice u).eq? vt with
   |some ⟨h1⟩,some ⟨h2⟩=>bif !qe tg ρ&&q7h fr (!bo)then some (jsg (vt' := .slice u) h1 h2 es)else none
   |_,_=>none
  |some (.mp kt' vt' es)=>
   match kt'.eq? kt,vt'.eq? vt with
   |some ⟨h1⟩,some ⟨h2⟩=>bif !qe tg ρ&&q7h fr (!bo)&&vt'.one then some (jsg h1 h2 es)else none
   |_,_=>none
  |_=>none
 |_=>none
mutual
def Sh.dec(bo:Bool)(ρ:Rho)(H:List TOb):(s:Sh)->TV->Option s.den
 | .d fr t,v=>zbk bo ρ H fr t v.st
 | .rp fr t,v=>jxv bo ρ H fr t v.st
 | .own i,v=>
  match v.st with
  | .own (.o tg)=>match ρ[i]? with|some (some t)=>bif Nat.beq t tg then some ()else none|_=>none
  | .val (.slice none 0 0)=>match ρ[i]? with|some none=>some ()|_=>none
  | .e0=>match ρ[i]? with|some none=>some ()|_=>none
  |_=>none
 | .kid i f,v=>
  match v.st with
  | .own (.r tg j f')=>match ρ[i]? with|some (some t)=>bif Nat.beq t tg&&Nat.beq f' f then some j else none|_=>none
  |_=>none
 | .ptr i,v=>
  match v.st with
  | .ptr (.o tg) (.ofNat 0) 0=>match ρ[i]? with|some (some t)=>bif Nat.beq t tg then some ()else none|_=>none
  |_=>none
 | .mp i,v=>
  match v.st with
  | .mp (.o tg)=>match ρ[i]? with|some (some t)=>bif Nat.beq t tg then some ()else none|_=>none
  |_=>none
 | .dm fr kt vt,v=>j7l bo ρ H fr kt vt v.st
 | .it,v=>match v.st with| .val (.pointer (some ⟨r,0,none⟩))=>some r|_=>none
 | .e,v=>match v.st with| .val (.slice none 0 0)=>some ()|_=>none
 | .fn f l,v=>match v.st with| .fn f' cs=>bif Nat.beq f' f then l.dec bo ρ H cs else none|_=>none
 | .agg l,v=>match v.st with| .agg cs=>l.dec bo ρ H cs|_=>none
 | .nl b s,v=>bif v.isN b then s.dec bo ρ H v.st else none
 | .nf s,v=>match s.dec bo ρ H v.st with|some x=>some (v.nlB,x)|none=>none
def ShL.dec(bo:Bool)(ρ:Rho)(H:List TOb):(l:ShL)->List TV->Option l.den
 | .nil,cs=>match cs with|[]=>some ()|_=>none
 | .cons s l,cs=>
  match cs with
  |v::r=>match s.dec bo ρ H v with|some x=>(match l.dec bo ρ H r with|some y=>some (x,y)|none=>none)|none=>none
  |[]=>none
end
def jnz:Md->Md->Bool
 | .fz fr, .fz fr' =>q7h fr fr'
 | .own, .own=>true
 |_,_=>false
def jvg:List TypeId->List TypeId->Bool
 |[],[]=>true
 |a::l,b::m=>Nat.beq a b&&jvg l m
 |_,_=>false
def j4l:Md->Bool
 | .fz _=>true
 | .own=>true
 |_=>false
def Hs.dec(bo:Bool)(ρ:Rho)(H:List TOb)(o:Option Nat):(h:Hs)->Option h.den
 | .arr ty md its t=>
  match o with
  |none=>bif j4l md then some ([]:List t.den)else none
  |some tg=>
   match H[tg]? with
   |some (.arr ty' md' its' t' xs)=>match t'.eq? t with|some ⟨h⟩=>bif Nat.beq ty' ty&&jnz md md' &&jvg its' its then some (qc5 h xs)else none|none=>none
   |_=>none
 | .cs ty sz n l=>
  match o with
  |none=>none
  |some tg=>
   match H[tg]? with
   |some (.cs ty' sz' n' ws)=>bif Nat.beq ty' ty&&Nat.beq sz' sz&&Nat.beq n' n&&Nat.blt 0 n then l.dec bo ρ H ws else none
   |_=>none
 | .mp kt vt=>
  match o with
  |none=>none
  |some tg=>
   match H[tg]? with
   |some (.mp kt' vt' es)=>
    match kt'.eq? kt,vt'.eq? vt with
    |some ⟨h1⟩,some ⟨h2⟩=>some (jsg h1 h2 es)
    |_,_=>none
   |_=>none
 | .mo kt u ety=>
  match o with
  |none=>none
  |some tg=>
   match H[tg]? with
   |some (.mo kt' u' ety' es none)=>
    match kt'.eq? kt,u'.eq? u with
    |some ⟨h1⟩,some ⟨h2⟩=>bif Nat.beq ety' ety then some (zbi h1 h2 es)else none
    |_,_=>none
   |_=>none
def jtx(bo:Bool)(ρ:Rho)(s:TS):(l:List (Nat×Sh))->Option (jfr l)
 |[]=>some ()
 |p::l=>match p.2.dec bo ρ s.H (bu s.S p.1)with|some x=>(match jtx bo ρ s l with|some y=>some (x,y)|none=>none)|none=>none
def qsu(bo:Bool)(ρ:Rho)(H:List TOb):Rho->(l:List Hs)->Option (na l)
 |[],[]=>some ()
 |o::os,p::l=>match p.dec bo ρ H o with|some x=>(match qsu bo ρ H os l with|some y=>some (x,y)|none=>none)|none=>none
 |_,_=>none
mutual
def Sh.fnd:Sh->TV->Rho->Rho
 | .own i,v,ρ=>match v.st with| .own (.o tg)=>ρ.set i (some tg)|_=>ρ
 | .kid i _,v,ρ=>match v.st with| .own (.r tg _ _)=>ρ.set i (some tg)|_=>ρ
 | .ptr i,v,ρ=>match v.st with| .ptr (.o tg) _ _=>ρ.set i (some tg)|_=>ρ
 | .mp i,v,ρ=>match v.st with| .mp (.o tg)=>ρ.set i (some tg)|_=>ρ
 | .fn _ l,v,ρ=>match v.st with| .fn _ cs=>l.fnd cs ρ|_=>ρ
 | .agg l,v,ρ=>match v.st with| .agg cs=>l.fnd cs ρ|_=>ρ
 | .nl _ s,v,ρ=>s.fnd v.st ρ
 | .nf s,v,ρ=>s.fnd v.st ρ
 |_,_,ρ=>ρ
def ShL.fnd:ShL->List TV->Rho->Rho
 | .cons s l,v::r,ρ=>l.fnd r (s.fnd v ρ)
 |_,_,ρ=>ρ
end
def j4s(S:List (Nat×TV)):List (Nat×Sh)->Rho->Rho
 |[],ρ=>ρ
 |p::l,ρ=>j4s S l (p.2.fnd (bu S p.1) ρ)
def jsw(H:List TOb):Nat->List Hs->Rho->Rho
 |_,[],ρ=>ρ
 |i, .cs _ _ _ l::hs,ρ=>jsw H (i+1) hs (match ρ[i]? with|some (some tg)=>(match H[tg]? with|some (.cs _ _ _ cs)=>l.fnd cs ρ|_=>ρ)|_=>ρ)
 |i,_::hs,ρ=>jsw H (i+1) hs ρ
def j4p:Nat->List Bool->Rho->Rho
 |_,[],ρ=>ρ
 |t,k::kp,ρ=>j4p (t+1) kp (bif k then ρ.set t (some t)else ρ)
def jvj:Nat->List Bool->Rho->Bool
 |_,[],_=>true
 |t,true::kp,ρ=>(match ρ[t]? with|some (some t')=>Nat.beq t' t|_=>false)&&jvj (t+1) kp ρ
 |t,false::kp,ρ=>jvj (t+1) kp ρ
def j7j(N:Nat)(kp:List Bool)(p:Nat)(s:TS):TS:=
 match bu s.S p with
 | .ownS (.o t) off n=>
  match s.H[t]? with
  |some (.arr ty (.fz fr) its u xs)=>bif !bt kp t&&Nat.blt p N&&Nat.blt 0 u.sz then⟨(p, .own (.o t))::sbS (bi t) s.S,(cx (bi t) s.H).set t (.arr ty (.fz fr) its u ((xs.drop off).take n))⟩else s
  |_=>s
 |_=>s
def jxu(N:Nat)(kp:List Bool):List (Nat×Sh)->TS->TS
 |[],s=>s
 |(p, .own _)::l,s=>jxu N kp l (j7j N kp p s)
 |_::l,s=>jxu N kp l s
def j7i(kp:List Bool)(tb j:Nat)(s:TS):TS:=
 match s.H[tb]? with
 |some (.cs ty sz n cs)=>
  match cs.getD j .any with
  | .ownS (.o t) off m=>
   match s.H[t]? with
   |some (.arr ty2 (.fz fr) its u xs)=>
    bif !bt kp t&&Nat.beq n 1&&Nat.blt j sz&& !Nat.beq t tb&&Nat.blt 0 u.sz then⟨sbS (bi t) s.S,((cx (bi t) s.H).set t (.arr ty2 (.fz fr) its u ((xs.drop off).take m))).set tb (.cs ty sz n ((TV.sbL (bi t) cs).set j (.own (.o t))))⟩else s
   |_=>s
  |_=>s
 |_=>s
def jyq:TV->Bool
 | .ownS _ _ _=>true
 |_=>false
def jsi(kp:List Bool)(tb:Nat):Nat->List TV->TS->TS
 |_,[],s=>s
 |j,v::l,s=>jsi kp tb (j+1) l (bif jyq v then j7i kp tb j s else s)
def jsj(kp:List Bool):Nat->List TOb->TS->TS
 |_,[],s=>s
 |tb, .cs _ _ _ cs::l,s=>jsj kp (tb+1) l (jsi kp tb 0 cs s)
 |tb,_::l,s=>jsj kp (tb+1) l s
def jyi:List Hs->Bool
 |[]=>false
 | .cs _ _ _ _::_=>true
 |_::l=>jyi l
def ju1(N:Nat)(kp:List Bool)(h:Shp)(s:TS):TS:=bif jyi h.hp then jsj kp 0 s.H (jxu N kp h.sl s)else jxu N kp h.sl s
def Shp.rho(kp:List Bool)(h:Shp)(s:TS):Rho:=jsw s.H 0 h.hp (j4s s.S h.sl (j4p 0 kp (List.replicate h.hp.length none)))
def Shp.decR(bo:Bool)(h:Shp)(s:TS)(ρ:Rho):Option h.den:=
 bif qxa ρ then
  match jtx bo ρ s h.sl with
  |some x=>(match qsu bo ρ s.H ρ h.hp with|some y=>some (x,y)|none=>none)
  |none=>none
 else none
def Shp.dec(N:Nat)(kp:List Bool)(h:Shp)(s:TS):Option h.den:=
 bif jvj 0 kp (h.rho kp (ju1 N kp h s))then h.decR false (ju1 N kp h s) (h.rho kp (ju1 N kp h s))else none
end Go.K
namespace Go.K
open Go.M Go.RowKit
variable {F : Nat -> Prop}
theorem qr6{tg:Nat}:∀{ρ:Rho},qe tg ρ=true↔some tg∈ρ
 |[]=>by simp[qe]
 |some t::l=>by
  simp only[qe,Kj,Wr,Wb,qr6 (ρ:=l)];exact⟨fun h=>h.imp (fun e=>(ax e).symm) id,fun h=>h.imp (fun e=>by rw[e];exact W5 _) id⟩
 |none::l=>by
  simp only[qe,Wr,reduceCtorEq,false_or,qr6 (ρ:=l)]
theorem qk8{tg:Nat}{ρ:Rho}:qe tg ρ=false↔some tg∉ρ:=by
 rw[<-qr6 (ρ:=ρ)];cases qe tg ρ<;>simp
theorem q8p:∀{ρ:Rho},qxa ρ=true->∀{i j tg:Nat},ρ[i]? =some (some tg)->ρ[j]? =some (some tg)->i=j
 |[],_,i,j,tg,h,_=>by simp at h
 |some t::l,hok,i,j,tg,h1,h2=>by
  simp only[qxa,Wc,WE]at hok;cases i with
  |zero=>
   cases j with
   |zero=>rfl
   |succ j=>
    simp at h1;subst h1;exact absurd (WV (show l[j]? =some (some t) by simpa using h2)) (qk8.1 hok.1)
  |succ i=>
   cases j with
   |zero=>
    simp at h2;subst h2;exact absurd (WV (show l[i]? =some (some t) by simpa using h1)) (qk8.1 hok.1)
   |succ j=>rw[q8p hok.2 (i:=i) (j:=j) (by simpa using h1) (by simpa using h2)]
 |none::l,hok,i,j,tg,h1,h2=>by
  cases i with
  |zero=>simp at h1
  |succ i=>
   cases j with
   |zero=>simp at h2
   |succ j=>rw[q8p (ρ:=l) hok (i:=i) (j:=j) (by simpa using h1) (by simpa using h2)]
def pg(ρ:Rho)(J:Pl):Pl:=fun T=>match ρ[T.ob]? with|some (some tg)=>J (T.at tg)|_=>none
theorem qcn{ρ:Rho}{J:Pl}{T:TG}{p:Nat×Nat}(h:pg ρ J T=some p):∃tg,ρ[T.ob]? =some (some tg)/\J (T.at tg)=some p:=by
 unfold pg at h;split at h
 ·rename_i tg e;exact⟨tg,e,h⟩
 ·cases h
theorem qdu{ρ:Rho}{J:Pl}{T:TG}{tg:Nat}(h:ρ[T.ob]? =some (some tg)):pg ρ J T=J (T.at tg):=by simp only[pg,h]
section
variable {U U' : Nat -> Prop} {w0 : World} {J0 : Pl} {K : Nat -> Bool} {H Hv H' : List TOb} {w : World} {J : Pl} {ρ : Rho} {bo : Bool}
structure Cv (U U' : Nat -> Prop) (w0 : World) (J0 : Pl) (K : Nat -> Bool) (H Hv H' : List TOb) (w : World) (J : Pl) (ρ : Rho) (bo : Bool) : Prop where
 hr : HR U w0 J0 K (vw H) w J
 le : HLe (fun _ => False) Hv H
 ok : qxa ρ = true
 u : ∀ b, U' b -> U b \/ da J b
 nb : bo = false -> ∀ b, U' b -> U b
 dim : ∀ i tg, ρ[i]? = some (some tg) -> aj (vw H') (.o i) = aj (vw H) (.o tg)
 nil : ∀ i, ρ[i]? = some none -> ∃ sz, aj (vw H') (.o i) = some (0, sz)
 kdim : ∀ i tg, ρ[i]? = some (some tg) -> ∀ j f q, aj (vw H) (.r tg j f) = some q -> aj (vw H') (.r i j f) = some q
theorem Cv.x(_h:Cv U U' w0 J0 K H Hv H' w J ρ bo){b:Nat}(hb:da (pg ρ J) b):da J b:=by
 obtain⟨T,o,hT⟩:=hb;obtain⟨tg,_,h2⟩:=qcn hT;exact⟨_,o,h2⟩
theorem Cv.low(h:Cv U U' w0 J0 K H Hv H' w J ρ bo)(fr:Bool):Low w (YY (da J) U fr) w (YY (da (pg ρ J)) U' fr):=by
 refine⟨Wg _,fun b _ hY hY' =>hY ?_,fun _ _ _=>rfl⟩;rcases hY' with e|⟨e1,e2⟩
 ·exact .inl (h.x e)
 ·rcases h.u b e2 with e|e
  ·exact .inr ⟨e1,e⟩
  ·exact .inl e
theorem Cv.out(h:Cv U U' w0 J0 K H Hv H' w J ρ bo){T:TG}(hT:qe T.ob ρ=false){g o:Nat}(hJ:J T=some (g,o)){fr:Bool}(hf:fr=true->bo=false):¬YY (da (pg ρ J)) U' fr g:=by
 rintro(⟨T',o',hT'⟩|⟨e1,e2⟩)
 ·obtain⟨tg,h1,h2⟩:=qcn hT';have:=h.hr.inj _ _ _ _ _ hJ h2;rw[this,TG.at_ob]at hT;exact qk8.1 hT (WV h1)
 ·exact(h.hr.own _ _ _ hJ).1 (h.nb (hf e1) g e2)
theorem Cv.row(h:Cv U U' w0 J0 K H Hv H' w J ρ bo){T:TG}{fr:Bool}{u:Ty}{xs:List u.den}(hl:jny Hv T=some (fr,⟨u,xs⟩))(hT:qe T.ob ρ=false):
  (∀q,aj (vw H) T=some q->q=(xs.length,u.sz))/\∀g o,J T=some (g,o)->qqw w (YY (da (pg ρ J)) U' (fr&& !bo)) u xs g o:=by
 have hfb:(fr&& !bo)=true->bo=false:=fun e=>by simp only[Wc,WE]at e;exact e.2
 have hlow:∀fr0,((fr&& !bo)=true->fr0=true)->Low w (YY (da J) U fr0) w (YY (da (pg ρ J)) U' (fr&& !bo)):=by
  intro fr0 h0;refine⟨Wg _,fun b hb hY hY' =>(h.low (fr&& !bo)).ex b hb (fun hY2=>hY ?_) hY',fun _ _ _=>rfl⟩;rcases hY2 with e|⟨e1,e2⟩
  ·exact .inl e
  ·exact .inr ⟨h0 e1,e2⟩
 cases T with
 |o t=>
  simp only[jny]at hl;split at hl
  ·rename_i ty md its u' xs' hov;have ho:=h.le.ob hov;split at hl
   ·rename_i fr';simp only[Wb,Wj,Sigma.mk.injEq]at hl;obtain⟨rfl,rfl,hx⟩:=hl;have hx:=HU hx;subst hx;refine⟨fun q hq=>by simp only[aj,az ho,Wd,Wb]at hq;exact hq.symm,fun g o hJ=> ?_⟩;have hob:=h.hr.obj _ _ (az ho);rw[hJ]at hob;refine OR.row hob (h.hr.lt hJ) (h.out hT hJ hfb) rfl rfl fun j f hj hf y hV=> ?_
    simp only[ns]at hV;have hC:=(Ty.C_iff (gr U (vw H) w J) fr' u' _ f y hf).2 hV;by_cases hfl:u'.flat=true
    ·exact Ty.C_flat u' _ f y hfl hC
    ·refine Ty.C_low (hlow fr' (fun e=> ?_)) u' _ f y hC;simp only[Wc,Kj]at e;exact e.1.resolve_right hfl
   ·simp only[Wb,Wj,Sigma.mk.injEq]at hl;obtain⟨rfl,rfl,hx⟩:=hl;have hx:=HU hx;subst hx;refine⟨fun q hq=>by simp only[aj,az ho,Wd,Wb]at hq;exact hq.symm,fun g o hJ=> ?_⟩;have hob:=h.hr.obj _ _ (az ho);rw[hJ]at hob;refine OR.row hob (h.hr.lt hJ) (h.out hT hJ hfb) rfl rfl fun j f hj hf y hV=> ?_
    exact jyy h.hr ho (hlow true fun _=>rfl) (fun i f g o hk=>h.out (T:= .r t i f) hT hk hfb) hj hf hV
   ·cases hl
  ·cases hl
 |r t i f=>
  simp only[jny]at hl;split at hl
  ·rename_i ty its u' xs' hov;have ho:=h.le.ob hov;split at hl
   ·rename_i y hin;simp only[Wb,Wj]at hl;obtain⟨rfl,rfl⟩:=hl;have hinfo:∀q,aj (vw H) (.r t i f)=some q->i<xs'.length/\q=(xs.length,u.sz):=by
     intro q hq;simp only[aj,l9 ho]at hq;split at hq
     ·rename_i hc;rw[hin]at hq;simp only[kv,Wd,Wb]at hq;exact⟨hc.2,hq.symm⟩
     ·cases hq
    refine⟨fun q hq=>(hinfo q hq).2,fun g o hJ=> ?_⟩;obtain⟨v,hv⟩:=h.hr.dom _ _ hJ;have hi:=(hinfo _ (by simp only[aj,hv];rfl)).1;exact jca h.hr ho rfl (hlow true fun _=>rfl) hi hin hJ (h.out (T:= .r t i f) hT hJ hfb)
   ·cases hl
  ·cases hl
theorem Cv.lend(h:Cv U U' w0 J0 K H Hv H' w J ρ bo):∀(A:TV) (v:Value),VR (gr U (vw H) w J) A v->VR (gr U' (vw H') w (pg ρ J)) (qsw bo ρ Hv A) v
 | .own T,v,hv=>by
  simp only[qsw];split
  ·rename_i fr u xs hl;cases hb:qe T.ob ρ with
   |true=>simp[hb,VR]
   |false=>
    obtain⟨h1,h2⟩:=h.row hl hb;obtain⟨n,sz,hI,hs⟩:=hv;have:=h1 _ hI;simp only[Wj]at this;obtain⟨rfl,rfl⟩:=this;have h3:=SlR.fz (off:=0) (n:=xs.length) (by omega) h2 hs;simp only[K3,WW]at h3;exact h3
  ·trivial
 | .ownS T off m,v,hv=>by
  simp only[qsw];split
  ·rename_i fr u xs hl;cases hb:qe T.ob ρ with
   |true=>simp[hb,VR]
   |false=>
    obtain⟨h1,h2⟩:=h.row hl hb;obtain⟨n,sz,hI,hle,hs⟩:=hv;have:=h1 _ hI;simp only[Wj]at this;obtain⟨rfl,rfl⟩:=this;exact SlR.fz hle h2 hs
  ·trivial
 | .int k n,v,hv=>hv
 | .bool b,v,hv=>hv
 | .val u,v,hv=>hv
 | .e0,v,hv=>hv
 | .sl fr t xs,v,hv=>Ty.C_low (h.low fr) (.slice t) xs 0 v hv
 | .any,_,_=>trivial
 | .rptr _ _ _ _ _,_,_=>trivial
 | .ptr _ _ _,_,_=>trivial
 | .mp _,_,_=>trivial
 | .dm _ _ _ _,_,_=>trivial
 | .fn _ _,_,_=>trivial
 | .agg _,_,_=>trivial
 | .tup _,_,_=>trivial
 | .cond _ _,_,_=>trivial
 | .nl _ _,_,_=>trivial
theorem q4f(bo:Bool)(ρ:Rho)(H:List TOb):∀(cs:List TV) (j:Nat),(qo5 bo ρ H cs).getD j .any=qsw bo ρ H (cs.getD j .any)
 |[],j=>by simp[qo5,qsw]
 |v::l,0=>by simp[qo5]
 |v::l,j+1=>by simpa[qo5]using q4f bo ρ H l j
theorem jih(bo:Bool)(ρ:Rho)(H:List TOb):∀(cs:List TV),(qo5 bo ρ H cs).length=cs.length
 |[]=>rfl
 |v::l=>by simp[qo5,jih bo ρ H l]
theorem qmj{fr g:Bool}(h:q7h fr g=true):fr=true->g=true:=by
 intro e;subst e;simpa[q7h]using h
theorem qye{G:Gr}{fr:Bool}{t:Ty}{cs:List TV}{x:t.den}(h:qnj fr t cs=some x):cs.length=t.sz/\∀f,f<t.sz->∀y,VR G (cs.getD f .any) y->VR G ((t.cells fr x).getD f .any) y:=by
 unfold qnj at h;split at h
 ·rename_i x' g hp;obtain⟨hb,h⟩:=ai h;cases h;obtain⟨h1,h2⟩:=Ty.pack1_ok (G:=G) hp;exact⟨h1,fun f hf y hy=>(Ty.C_iff G fr t x f y hf).1 (Ty.C_fr (qmj hb) (h2 f hf y hy))⟩
 ·cases h
theorem jsn(h:Cv U U' w0 J0 K H Hv H' w J ρ bo){fr:Bool}{t:Ty}{cs:List TV}{x:t.den}(hd:qnj fr t (qo5 bo ρ Hv cs)=some x){v:Value}(hv:VR (gr U (vw H) w J) (.agg cs) v):VR (gr U' (vw H') w (pg ρ J)) (.agg (t.cells fr x)) v:=by
 obtain⟨h1,h2⟩:=qye (G:=gr U' (vw H') w (pg ρ J)) hd;obtain⟨vs,rfl,hvs,h3⟩:=hv;rw[jih]at h1;refine⟨vs,rfl,gf.of ?_ (fun j B y hB hy=> ?_),h3⟩
 ·rw[hvs.len,h1];exact(Ty.cells_len fr t x).symm
 ·have hj:j<t.sz:=by
   have:=(Wh.1 hB).1;exact Nat.lt_of_lt_of_eq this (Ty.cells_len fr t x)
  obtain⟨y',hy',hV⟩:=hvs.getD j (by omega);rw[hy]at hy';cases hy';have h4:=h2 j hj y (by rw[q4f];exact h.lend _ _ hV);have e:(t.cells fr x).getD j .any=B:=by rw[Wa,hB];rfl
  rw[e]at h4;exact h4
theorem j1z(h:Cv U U' w0 J0 K H Hv H' w J ρ bo){fr:Bool}:∀{t:Ty} {A:TV} {x:t.den},zbk bo ρ Hv fr t A=some x->∀{v:Value},VR (gr U (vw H) w J) A v->VR (gr U' (vw H') w (pg ρ J)) (jgb fr t x) v
 | .struct l,A,x,hd,v,hv=>by
  cases A
  case agg cs=>exact jsn (t:= .struct l) h hd hv
  all_goals cases hd
 | .tree l m,A,x,hd,v,hv=>by
  cases A
  case agg cs=>exact jsn (t:= .tree l m) h hd hv
  all_goals cases hd
 | .int k,A,x,hd,v,hv=>by
  have hd:qnj fr (.int k) [A]=some x:=hd;have hd' :qnj fr (.int k) [qsw bo ρ Hv A]=some x:=by
   cases A<;>first|exact hd|(simp[qnj,Ty.pack1,Ty.pack]at hd)
  exact(qye (G:=gr U' (vw H') w (pg ρ J)) hd').2 0 (by simp[Ty.sz]) v (h.lend _ _ hv)
 | .bool,A,x,hd,v,hv=>by
  have hd:qnj fr .bool [A]=some x:=hd;have hd' :qnj fr .bool [qsw bo ρ Hv A]=some x:=by
   cases A<;>first|exact hd|(simp[qnj,Ty.pack1,Ty.pack]at hd)
  exact(qye (G:=gr U' (vw H') w (pg ρ J)) hd').2 0 (by simp[Ty.sz]) v (h.lend _ _ hv)
 | .str,A,x,hd,v,hv=>by
  have hd:qnj fr .str [A]=some x:=hd;have hd' :qnj fr .str [qsw bo ρ Hv A]=some x:=by
   cases A<;>first|exact hd|(simp[qnj,Ty.pack1,Ty.pack]at hd)
  exact(qye (G:=gr U' (vw H') w (pg ρ J)) hd').2 0 (by simp[Ty.sz]) v (h.lend _ _ hv)
 | .slice t,A,x,hd,v,hv=>by
  have hd:(match j7h Hv A with|some (tg,sz,n,cs)=>bif !qe tg ρ&&Nat.beq sz t.sz&&q7h fr (!bo)then j7m fr t n (qo5 bo ρ Hv cs)else none|none=>qnj fr (.slice t) [qsw bo ρ Hv A])=some x:=hd;split at hd
  ·rename_i tg sz n cs hcs;have hb:=(ai hd).1
   replace hd:=(ai hd).2
   simp only[Wc,WE]at hb;obtain⟨⟨hb1,hb2⟩,hb3⟩:=hb;unfold j7h at hcs;split at hcs
   ·rename_i tg';split at hcs
    ·rename_i ty sz' n' cs' hov;simp only[Wb,Wj]at hcs;obtain⟨rfl,rfl,rfl,rfl⟩:=hcs;have ho:=h.le.obc hov;have hsz:=ax hb2;subst hsz;unfold j7m at hd;split at hd
     ·rename_i xs g hpk;have hg:=(ai hd).1;have hx:xs=x:=Kp (ai hd).2;clear hd;subst hx;obtain⟨q1,q2,q3⟩:=Ty.packN_ok (G:=gr U' (vw H') w (pg ρ J)) hpk;have hO:vw H (.o tg')=some ⟨ty,t.sz,n',fun i f=>cs'.getD (i*t.sz+f) .any⟩:=by simp[vw,ho,vwO]
      obtain⟨m,sz2,hI,hs⟩:=hv;have hI' :aj (vw H) (.o tg')=some (m,sz2):=hI;simp only[aj,hO,Wd,Wb,Wj]at hI';obtain⟨rfl,rfl⟩:=hI';have hrow:∀g' o,J (.o tg')=some (g',o)->qqw w (YY (da (pg ρ J)) U' fr) t xs g' o:=by
       intro g' o hJ;have hob:=h.hr.obj _ _ hO;rw[hJ]at hob;refine OR.row hob (h.hr.lt hJ) (h.out (T:= .o tg') hb1 hJ (fun e=>by simpa[q7h,e]using hb3)) rfl q1.symm fun i f hi hf y hV=> ?_
       have h1:=q3 i f (by omega) hf y (by rw[q4f];exact h.lend _ _ hV);exact Ty.C_fr (G:=gr U' (vw H') w (pg ρ J)) (qmj hg) h1
      have h3:=SlR.fz (off:=0) (n:=xs.length) (by omega) hrow (by rw[q1];exact hs);simp only[K3,WW]at h3;exact h3
     ·cases hd
    ·cases hcs
   ·cases hcs
  ·exact(qye (G:=gr U' (vw H') w (pg ρ J)) (show qnj fr (.slice t) [qsw bo ρ Hv A]=some x from hd)).2 0 (by simp[Ty.sz]) v (h.lend _ _ hv)
end
end Go.K
namespace Go.K
open Go.M Go.RowKit
section
variable {U U' : Nat -> Prop} {w0 : World} {J0 : Pl} {K : Nat -> Bool} {H Hv H' : List TOb} {w : World} {J : Pl} {ρ : Rho} {bo : Bool}
theorem jxw(h:Cv U U' w0 J0 K H Hv H' w J ρ bo){fr:Bool}{t:Ty}{A:TV}{x:t.den}(hd:jxv bo ρ Hv fr t A=some x){v:Value}(hv:VR (gr U (vw H) w J) A v):VR (gr U' (vw H') w (pg ρ J)) (.rptr fr t [x] (.ofNat 0) 0) v:=by
 unfold jxv at hd;split at hd
 ·rename_i fr' t' x';split at hd
  ·rename_i he _;obtain⟨hb,hd⟩:=ai hd;subst he;cases hd;obtain⟨b,o,rfl,hrow⟩:=hv;refine⟨b,o,rfl,?_⟩;refine qqw.low (w:=w) (w' :=w) ⟨Wg _,fun b hb' hY hY' =>(h.low fr).ex b hb' (fun hY2=>hY ?_) hY',fun _ _ _=>rfl⟩ hrow;rcases hY2 with e|⟨e1,e2⟩
   ·exact .inl e
   ·exact .inr ⟨qmj hb e1,e2⟩
  ·cases hd
 ·rename_i tg;split at hd
  ·rename_i ty sz n cs hov;have hb:=(ai hd).1
   replace hd:=(ai hd).2
   simp only[Wc,WE]at hb;obtain⟨⟨⟨hb1,hb2⟩,hb3⟩,hb4⟩:=hb;have hn:=ax hb2;have hsz:=ax hb3;subst hn;subst hsz;obtain⟨h1,h2⟩:=qye (G:=gr U' (vw H') w (pg ρ J)) hd;obtain⟨g,o,n,sz,hJ,hI,rfl⟩:=hv;have hvw:=qfs (h.le.obc hov);have hI' :aj (vw H) (.o tg)=some (n,sz):=hI;simp only[aj,hvw,Wd,Wb,Wj]at hI';obtain⟨rfl,rfl⟩:=hI';have hob:=h.hr.obj _ _ hvw;have hJ' :J (.o tg)=some (g,o):=hJ;rw[hJ']at hob;refine⟨g,o,rfl,h.hr.lt hJ',h.out (T:= .o tg) hb1 hJ' (fun e=>by have:=qmj hb4 e;simpa using this),fun i f hi hf=> ?_⟩;obtain rfl:i=0:=by simpa using hi
   obtain⟨cur,c,hc1,hc2,hc3,hc4⟩:=hob.cells (.inr (K8));obtain⟨y,hy,h3,hV⟩:=hc4 0 f (by simp) hf;refine⟨y,?_,h3,?_⟩
   ·have hc1' :w.heap[g]? =some (.cells cur ty (0,0)):=hc1;show w.cell? _=_;rw[cell_of_row _ _ _ cur ty (0,0) hc1'];exact hy
   ·simp only[K9];refine(Ty.C_iff (gr U' (vw H') w (pg ρ J)) fr t x f y hf).2 (h2 f hf y ?_);rw[q4f];refine h.lend _ _ ?_;simpa using hV
  ·cases hd
 ·cases hd
theorem j10(h:Cv U U' w0 J0 K H Hv H' w J ρ bo){fr:Bool}{kt vt:Ty}{A:TV}{es:List (kt.den×vt.den)}(hd:j7l bo ρ Hv fr kt vt A=some es){v:Value}(hv:VR (gr U (vw H) w J) A v):VR (gr U' (vw H') w (pg ρ J)) (.dm fr kt vt es) v:=by
 unfold j7l at hd;split at hd
 ·rename_i fr' kt' vt' es';split at hd
  ·rename_i h1 h2 _ _;obtain⟨hb,hd⟩:=ai hd;subst h1;subst h2;cases hd;refine q04.low (w:=w) (w' :=w) ⟨Wg _,fun b hb' hY hY' =>(h.low fr).ex b hb' (fun hY2=>hY ?_) hY',fun _ _ _=>rfl⟩ hv;rcases hY2 with e|⟨e1,e2⟩
   ·exact .inl e
   ·exact .inr ⟨qmj hb e1,e2⟩
  ·cases hd
 ·cases hd;exact .inl ⟨hv,rfl⟩
 ·rename_i tg;split at hd
  ·rename_i kt' u ety es' hov;split at hd
   ·rename_i h1 h2 _ _
    ·have hb:=(ai hd).1
     replace hd:=(ai hd).2
     subst h1;subst h2;cases hd;simp only[Wc,WE]at hb;obtain⟨hb1,hb2⟩:=hb;have ho:=h.le.obo hov;obtain⟨g,o,q,hJ,_,rfl⟩:=hv;have hJ:J (.o tg)=some (g,o):=hJ;have hfb:fr=true->bo=false:=fun e=>by have:=qmj hb2 e;simpa using this
     have hob:=h.hr.obj _ _ (qa0 ho);rw[hJ]at hob;obtain⟨hs,c,hh,hmo⟩:=hob.map rfl rfl;have hkl:=q4n hmo;refine .inr ⟨g,hs,c,rfl,h.hr.lt hJ,h.out (T:= .o tg) hb1 hJ hfb,hh,hmo.1,by have:=hkl.1;rwa[WO]at this,fun i e p he hp=>⟨hkl.2 i e p (by simpa using he) hp,?_⟩⟩;obtain⟨pk,py⟩:=p;obtain⟨ys,hys⟩:∃ys:List u.den,ys=py:=⟨py,rfl⟩;have hp:es'[i]? =some (pk,ys):=by rw[hys];exact hp
     show Ty.C w (YY (da (pg ρ J)) U' fr) (.slice u) py 0 e.val;rw[<-hys];clear hys;obtain⟨_,hV⟩:=hmo.at_ he;have hV:VR (gr U (vw H) w J) (moC tg kt' es' none i 1) e.val:=hV;rw[qms hp,if_neg (by simp)]at hV;have hi:i<es'.length:=(Wh.1 hp).1;have hmr:qeh es' i=ys:=by unfold qeh;rw[hp]
     have hvk:vw H (.r tg i 0)=some ⟨ety,u.sz,ys.length,fun j g=>(u.cells true (ys.getD j u.dft)).getD g .any⟩:=by rw[qm ho,if_pos ⟨rfl,hi⟩,hmr]
     obtain⟨n,sz,hI,hS⟩:=hV;have hI:aj (vw H) (.r tg i 0)=some (n,sz):=hI;simp only[aj,hvk,Wd,Wb,Wj]at hI;obtain⟨rfl,rfl⟩:=hI;have hrow:∀g o,J (.r tg i 0)=some (g,o)->qqw w (YY (da (pg ρ J)) U' fr) u ys g o:=fun g o hJr=>by
      have hor:=h.hr.obj _ _ hvk;rw[hJr]at hor;refine OR.row hor (h.hr.lt hJr) (h.out (T:= .r tg i 0) hb1 hJr hfb) rfl rfl fun j f hj hf y hV=> ?_
      have hC:=(Ty.C_iff (gr U (vw H) w J) true u _ f y hf).2 hV;refine Ty.C_low (w:=w) (w' :=w) ⟨Wg _,fun b hb' hY hY' =>(h.low fr).ex b hb' (fun hY2=>hY ?_) hY',fun _ _ _=>rfl⟩ u _ f y hC;rcases hY2 with e|⟨_,e2⟩
      ·exact .inl e
      ·exact .inr ⟨rfl,e2⟩
     have hS:SlR w J (.r tg i 0) u.sz 0 ys.length e.val:=hS;have:=SlR.fz (off:=0) (n:=ys.length) (by omega) hrow hS;simp only[K3,WW]at this;exact this
   ·cases hd
  ·rename_i kt' vt' es' hov;split at hd
   ·rename_i h1 h2 _ _;have hb:=(ai hd).1
    replace hd:=(ai hd).2
    subst h1;subst h2;cases hd;simp only[Wc,WE]at hb;obtain⟨⟨hb1,hb2⟩,hb3⟩:=hb;have ho:=h.le.obm hov;obtain⟨g,o,q,hJ,_,rfl⟩:=hv;have hJ:J (.o tg)=some (g,o):=hJ;have hfb:fr=true->bo=false:=fun e=>by have:=qmj hb2 e;simpa using this
    have hob:=h.hr.obj _ _ (qqv ho);rw[hJ]at hob;obtain⟨hs,c,hh,hmo⟩:=hob.map rfl rfl;obtain⟨hl,hat⟩:=(jk2 hmo).at_;refine .inr ⟨g,hs,c,rfl,h.hr.lt hJ,h.out (T:= .o tg) hb1 hJ hfb,hh,hmo.1,by rwa[WO]at hl,fun i e p he hp=> ?_⟩;obtain⟨e1,e2⟩:=hat i e p (by simpa using he) hp;refine⟨e1,?_⟩;rw[e2];cases vt' with
    |int k=>rfl
    |bool=>rfl
    |str=>rfl
    |slice t=>cases hb3
    |struct l=>cases hb3
    |tree _ _=>cases hb3
   ·cases hd
  ·cases hd
 ·cases hd
theorem VR.st{G:Gr}{A:TV}{v:Value}(h:VR G A v):VR G A.st v:=by
 cases A<;>first|exact h|exact h.1
mutual
theorem Sh.dec_ok(h:Cv U U' w0 J0 K H Hv H' w J ρ bo):∀(s:Sh) (A:TV) (x:s.den),s.dec bo ρ Hv A=some x->∀v,VR (gr U (vw H) w J) A v->VR (gr U' (vw H') w (pg ρ J)) (s.enc x) v
 | .d fr t,A,x,hd,v,hv=>j1z h hd hv.st
 | .rp fr t,A,x,hd,v,hv=>jxw h hd hv.st
 | .own i,A,x,hd,v,hv=>by
  have nilCase:ρ[i]? =some none->(∃a,v= .slice a 0 0)->VR (gr U' (vw H') w (pg ρ J)) (.own (.o i)) v:=by
   rintro hi ⟨a,rfl⟩;obtain⟨sz,hs⟩:=h.nil i hi;exact⟨0,sz,hs, .inl ⟨a,rfl,rfl⟩⟩
  unfold Sh.dec at hd
  replace hv:=hv.st
  generalize A.st=A' at hd hv;split at hd
  ·rename_i tg;split at hd
   ·rename_i t hi;obtain⟨hb,hd⟩:=ai hd;have hb:=ax hb;subst hb;obtain⟨n,sz,hI,hs⟩:=hv;refine⟨n,sz,(h.dim i t hi).trans hI,?_⟩;rcases hs with hs|⟨g,o,c,cur,e,hJ,h1,h2,h3,h4,h5⟩
    ·exact .inl hs
    ·exact .inr ⟨g,o,c,cur,e,(qdu (T:= .o i) hi).trans hJ,h1,h2,h3,h4,h5⟩
   ·cases hd
  ·split at hd
   ·rename_i hi;exact nilCase hi ⟨none,hv⟩
   ·cases hd
  ·split at hd
   ·rename_i hi;exact nilCase hi hv
   ·cases hd
  ·cases hd
 | .kid i f,A,x,hd,v,hv=>by
  unfold Sh.dec at hd
  replace hv:=hv.st
  generalize A.st=A' at hd hv;split at hd
  ·rename_i tg j f';split at hd
   ·rename_i t hi;have hbd:=ai hd;clear hd;obtain⟨hb,hd2⟩:=hbd;simp only[Wc]at hb;have hb1:=ax hb.1;have hb2:=ax hb.2;subst hb1;subst hb2;cases hd2;obtain⟨n,sz,hI,hs⟩:=hv;refine⟨n,sz,h.kdim i t hi j f' _ hI,?_⟩;rcases hs with hs|⟨g,o,c,cur,e,hJ,h1,h2,h3,h4,h5⟩
    ·exact .inl hs
    ·exact .inr ⟨g,o,c,cur,e,(qdu (T:= .r i j f') hi).trans hJ,h1,h2,h3,h4,h5⟩
   ·cases hd
  ·cases hd
 | .ptr i,A,x,hd,v,hv=>by
  unfold Sh.dec at hd
  replace hv:=hv.st
  generalize A.st=A' at hd hv;split at hd
  ·rename_i tg;split at hd
   ·rename_i t hi;obtain⟨hb,hd⟩:=ai hd;have hb:=ax hb;subst hb;obtain⟨g,o,n,sz,hJ,hI,h1⟩:=hv;exact⟨g,o,n,sz,(qdu (T:= .o i) hi).trans hJ,(h.dim i t hi).trans hI,h1⟩
   ·cases hd
  ·cases hd
 | .dm fr kt vt,A,x,hd,v,hv=>j10 h hd hv.st
 | .it,A,x,hd,v,hv=>by
  unfold Sh.dec at hd
  replace hv:=hv.st
  generalize A.st=A' at hd hv;split at hd
  ·cases hd;exact hv
  ·cases hd
 | .e,A,x,hd,v,hv=>by
  unfold Sh.dec at hd
  replace hv:=hv.st
  generalize A.st=A' at hd hv;split at hd
  ·exact hv
  ·cases hd
 | .mp i,A,x,hd,v,hv=>by
  unfold Sh.dec at hd
  replace hv:=hv.st
  generalize A.st=A' at hd hv;split at hd
  ·rename_i tg;split at hd
   ·rename_i t hi;obtain⟨hb,hd⟩:=ai hd;have hb:=ax hb;subst hb;obtain⟨g,o,q,hJ,hI,h1⟩:=hv;exact⟨g,o,q,(qdu (T:= .o i) hi).trans hJ,(h.dim i t hi).trans hI,h1⟩
   ·cases hd
  ·cases hd
 | .fn f l,A,x,hd,v,hv=>by
  unfold Sh.dec at hd
  replace hv:=hv.st
  generalize A.st=A' at hd hv;split at hd
  ·rename_i f' cs;obtain⟨hb,hd⟩:=ai hd;have hb:=ax hb;subst hb;obtain⟨vs,h1,h2⟩:=hv;exact⟨vs,h1,ShL.dec_ok h l cs x hd vs h2⟩
  ·cases hd
 | .nl b s,A,x,hd,v,hv=>by
  unfold Sh.dec at hd;obtain⟨hb,hd⟩:=ai hd;exact⟨Sh.dec_ok h s _ x hd v hv.st,jve hb hv⟩
 | .nf s,A,x,hd,v,hv=>by
  unfold Sh.dec at hd;split at hd
  ·rename_i y hy;cases hd;exact⟨Sh.dec_ok h s _ y hy v hv.st,jvu hv⟩
  ·cases hd
 | .agg l,A,x,hd,v,hv=>by
  replace hv:=hv.st
  unfold Sh.dec at hd;generalize A.st=A at hd hv;cases A
  case agg cs=>
   have hd:l.dec bo ρ Hv cs=some x:=hd;obtain⟨vs,h1,h2,h3⟩:=hv;exact⟨vs,h1,ShL.dec_ok h l cs x hd vs h2,h3⟩
  all_goals cases hd
theorem ShL.dec_ok(h:Cv U U' w0 J0 K H Hv H' w J ρ bo):∀(l:ShL) (cs:List TV) (x:l.den),l.dec bo ρ Hv cs=some x->∀vs,gf (gr U (vw H) w J) cs vs->gf (gr U' (vw H') w (pg ρ J)) (l.enc x) vs
 | .nil,cs,x,hd,vs,hv=>by
  unfold ShL.dec at hd;split at hd
  ·exact hv
  ·cases hd
 | .cons s l,cs,x,hd,vs,hv=>by
  unfold ShL.dec at hd;split at hd
  ·rename_i A r;split at hd
   ·rename_i x1 hx;split at hd
    ·rename_i y hy;cases hd;obtain⟨u,m,rfl,h1,h2⟩:=hv;exact⟨u,m,rfl,Sh.dec_ok h s A x1 hx u h1,ShL.dec_ok h l r y hy m h2⟩
    ·cases hd
   ·cases hd
  ·cases hd
end
theorem ShL.dec_at(h:Cv U U' w0 J0 K H Hv H' w J ρ bo):∀(l:ShL) (cs:List TV) (x:l.den),l.dec bo ρ Hv cs=some x->∀(j:Nat) v,VR (gr U (vw H) w J) (cs.getD j .any) v->VR (gr U' (vw H') w (pg ρ J)) ((l.enc x).getD j .any) v
 | .nil,cs,x,hd,j,v,hv=>by simp[ShL.enc,VR]
 | .cons s l,cs,x,hd,j,v,hv=>by
  unfold ShL.dec at hd;split at hd
  ·rename_i A r;split at hd
   ·rename_i x1 hx;split at hd
    ·rename_i y hy;cases hd;cases j with
     |zero=>simpa[ShL.enc]using Sh.dec_ok h s A x1 hx v (by simpa using hv)
     |succ j=>simpa[ShL.enc]using ShL.dec_at h l r y hy j v (by simpa using hv)
    ·cases hd
   ·cases hd
  ·cases hd
end
section
variable {bo : Bool} {ρ : Rho} {H : List TOb}
theorem q35:∀(os:Rho) (l:List Hs) (y:na l),qsu bo ρ H os l=some y->os.length=l.length/\(du l y).length=l.length/\∀(i:Nat) o,os[i]? =some o->∃(hs:Hs) (xi:hs.den),hs.dec bo ρ H o=some xi/\(du l y)[i]? =some (hs.enc xi)
 |[],[],y,h=>⟨rfl,rfl,fun i o ho=>by simp at ho⟩
 |[],p::l,y,h=>by simp[qsu]at h
 |o::os,[],y,h=>by simp[qsu]at h
 |o::os,p::l,y,h=>by
  unfold qsu at h;split at h
  ·rename_i x hx;split at h
   ·rename_i y' hy;cases h;obtain⟨h1,h2,h3⟩:=q35 os l y' hy;refine⟨by simp[h1],by simp[du,h2],fun i o' ho=> ?_⟩;cases i with
    |zero=>
     simp at ho;subst ho;exact⟨p,x,hx,by simp[du]⟩
    |succ i=>
     obtain⟨hs,xi,e1,e2⟩:=h3 i o' (by simpa using ho);exact⟨hs,xi,e1,by simpa[du]using e2⟩
   ·cases h
  ·cases h
theorem jsy:∀{a b:List TypeId},jvg a b=true->a=b
 |[],[],_=>rfl
 |[],b::m,h=>by simp[jvg]at h
 |a::l,[],h=>by simp[jvg]at h
 |a::l,b::m,h=>by
  simp only[jvg,Wc]at h;rw[ax h.1,jsy h.2]
theorem Hs.dec_cases{hs:Hs}{o:Option Nat}{xi:hs.den}(h:hs.dec bo ρ H o=some xi):
  (o=none/\∃ty md its t,j4l md=true/\hs.enc xi= .arr ty md its t [])\/
  (∃tg ty md md' its t xs,o=some tg/\H[tg]? =some (.arr ty md' its t xs)/\jnz md md' =true/\hs.enc xi= .arr ty md its t xs)\/
  (∃tg ty sz n l cs x,o=some tg/\H[tg]? =some (.cs ty sz n cs)/\ShL.dec bo ρ H l cs=some x/\0<n/\hs.enc xi= .cs ty sz n (l.enc x))\/
  (∃tg kt vt es,o=some tg/\H[tg]? =some (.mp kt vt es)/\hs.enc xi= .mp kt vt es)\/
  (∃tg kt u ety es,o=some tg/\H[tg]? =some (.mo kt u ety es none)/\hs.enc xi= .mo kt u ety es none):=by
 cases hs with
 |arr ty md its t=>
  unfold Hs.dec at h;simp only[]at h;split at h
  ·obtain⟨hb,h⟩:=ai h;cases h;exact .inl ⟨rfl,ty,md,its,t,hb,rfl⟩
  ·rename_i tg;split at h
   ·rename_i ty' md' its' t' xs hov;split at h
    ·rename_i he _;obtain⟨hb,h⟩:=ai h;subst he;cases h;simp only[Wc]at hb;have e1:=ax hb.1.1;have e2:=jsy hb.2;subst e1;subst e2;exact .inr (.inl ⟨tg,_,md,md',_,_,xs,rfl,hov,hb.1.2,rfl⟩)
    ·cases h
   ·cases h
 |cs ty sz n l=>
  unfold Hs.dec at h;simp only[]at h;split at h
  ·cases h
  ·rename_i tg;split at h
   ·rename_i ty' sz' n' ws hov;obtain⟨hb,h⟩:=ai h;simp only[Wc]at hb;have e1:=ax hb.1.1.1;have e2:=ax hb.1.1.2;have e3:=ax hb.1.2;subst e1;subst e2;subst e3;exact .inr (.inr (.inl ⟨tg,_,_,_,l,ws,xi,rfl,hov,h,cm hb.2,rfl⟩))
   ·cases h
 |mp kt vt=>
  unfold Hs.dec at h;simp only[]at h;split at h
  ·cases h
  ·rename_i tg;split at h
   ·rename_i kt' vt' es hov;split at h
    ·rename_i h1 h2 _ _;subst h1;subst h2;cases h;exact .inr (.inr (.inr (.inl ⟨tg,_,_,es,rfl,hov,rfl⟩)))
    ·cases h
   ·cases h
 |mo kt u ety=>
  unfold Hs.dec at h;simp only[]at h;split at h
  ·cases h
  ·rename_i tg;split at h
   ·rename_i kt' u' ety' es hov;split at h
    ·rename_i h1 h2 _ _;obtain⟨hb,h⟩:=ai h;have e1:=ax hb;subst e1;subst h1;subst h2;cases h;exact .inr (.inr (.inr (.inr ⟨tg,_,_,_,es,rfl,hov,rfl⟩)))
    ·cases h
   ·cases h
end
end Go.K
