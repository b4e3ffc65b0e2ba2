/-
  A typed machine over the model's memory (part KD). No program is named.
-/
import Derived.Test.YtokeielgplbdeaaZ8KC
set_option linter.all false
namespace Go.K
open Go.M Go.RowKit
structure Ext (s s' : TS) : Prop where
 H : s.H = s'.H
 S : ∀ t, bg s.S t = bg s'.S t
theorem Ext.refl(s:TS):Ext s s:=⟨rfl,fun _=>rfl⟩
theorem Ext.symm{s s' :TS}(h:Ext s s'):Ext s' s:=⟨h.H.symm,fun t=>(h.S t).symm⟩
theorem Ext.trans{s s' s'' :TS}(h:Ext s s')(h' :Ext s' s''):Ext s s'' :=⟨h.H.trans h'.H,fun t=>(h.S t).trans (h'.S t)⟩
theorem Ext.ap{s s' :TS}(h:Ext s s')(x:St):Ext (s.ap x) (s'.ap x):=by
 refine⟨by simp only[TS.ap,h.H],fun t=> ?_⟩;cases x with
 |sb θ=>simp only[TS.ap,sAp,fe,h.S]
 |set t o=>exact h.S _
 |new t o=>exact h.S _
theorem Ext.aps{s s' :TS}(h:Ext s s'):∀δ:List St,Ext (s.aps δ) (s'.aps δ)
 |[]=>h
 |x::δ=>Ext.aps (h.ap x) δ
theorem gz{S:List (Nat×TV)}{d:Option Tmp}{v:TV}{t:Nat}:bg (qqi S d v) t=if d=some t then v else bg S t:=by
 cases d with
 |none=>rfl
 |some d=>simp only[qqi,mg,Option.some.injEq]
theorem gn(s:TS)(d:Option Tmp)(v:TV):s.put d v=⟨qqi s.S d v,s.H⟩:=by cases d<;>rfl
theorem Ext.put{s s' :TS}(h:Ext s s')(d:Option Tmp)(v:TV):Ext (s.put d v) (s'.put d v):=by
 rw[gn,gn];exact⟨h.H,fun t=>by simp only[gz,h.S]⟩
section
variable {U : Nat → Prop} {w0 : World} {σ0 : Pl} {K : Nat → Bool} {N : Nat}
theorem df.ext{s s' :TS}(h:Ext s s'){a:Act}{w:World}{σ:Pl}(hr:df U w0 σ0 K N s a w σ):df U w0 σ0 K N s' a w σ:=by
 have e:bg s.S=bg s'.S:=funext h.S;show ARel _ _ _ _ _ _ _ _ _ _;rw[←e,←h.H];exact hr
end
theorem q47{N:Nat}{S S' :List (Nat×TV)}(h:∀t,bg S t=bg S' t):evT N S=evT N S' :=by
 funext x;cases x with
 |tmp t=>simp only[evT,rd,h]
 |_=>rfl
mutual
def Wk:TV→TV→Prop
 |_, .any=>True
 | .fn f l, .fn g m=>f=g∧WkL l m
 | .agg l, .agg m=>WkL l m
 | .tup l, .tup m=>WkL l m
 | .cond c a, .cond c' b=>c=c' ∧Wk a b
 | .nl a b, .nl c d=>a=c∧Wk b d
 |a,b=>a=b
def WkL:List TV→List TV→Prop
 |[],[]=>True
 |a::l,b::m=>Wk a b∧WkL l m
 |_,_=>False
end
mutual
theorem Wk.vr{G:Gr}:∀(A B:TV) (v:Value),Wk A B→VR G A v→VR G B v
 |A, .any,v,_,_=>trivial
 | .fn f l, .fn g m,v,h,hv=>by
  obtain⟨rfl,h⟩:=h;obtain⟨vs,hl,hc⟩:=hv;exact⟨vs,hl,WkL.vr l m vs h hc⟩
 | .agg l, .agg m,v,h,hv=>by
  obtain⟨vs,hl,hc,h1⟩:=hv;exact⟨vs,hl,WkL.vr l m vs h hc,h1⟩
 | .tup l, .tup m,v,h,hv=>by
  obtain⟨vs,hl,hc⟩:=hv;exact⟨vs,hl,WkL.vr l m vs h hc⟩
 | .cond c a, .cond c' b,v,h,hv=>by
  obtain⟨rfl,h⟩:=h;unfold VR at hv⊢;split
  ·rename_i hc;rw[if_pos hc]at hv;exact Wk.vr a b v h hv
  ·rename_i hc;rw[if_neg hc]at hv;exact hv
 | .nl a b, .nl c d,v,h,hv=>by
  obtain⟨rfl,h⟩:=h;exact⟨Wk.vr b d v h hv.1,hv.2⟩
 |A, .int k n,v,h,hv=>by cases A<;>simp only[Wk]at h<;>first|(cases h;done)|(cases h;exact hv)|(rw[h]at hv;exact hv)
 |A, .bool b,v,h,hv=>by cases A<;>simp only[Wk]at h<;>first|(cases h;done)|(cases h;exact hv)|(rw[h]at hv;exact hv)
 |A, .val u,v,h,hv=>by cases A<;>simp only[Wk]at h<;>first|(cases h;done)|(cases h;exact hv)|(rw[h]at hv;exact hv)
 |A, .e0,v,h,hv=>by cases A<;>simp only[Wk]at h<;>first|(cases h;done)|(cases h;exact hv)|(rw[h]at hv;exact hv)
 |A, .sl fr t xs,v,h,hv=>by cases A<;>simp only[Wk]at h<;>first|(cases h;done)|(cases h;exact hv)|(rw[h]at hv;exact hv)
 |A, .rptr fr t xs i f,v,h,hv=>by cases A<;>simp only[Wk]at h<;>first|(cases h;done)|(cases h;exact hv)|(rw[h]at hv;exact hv)
 |A, .dm fr kt vt es,v,h,hv=>by cases A<;>simp only[Wk]at h<;>first|(cases h;done)|(cases h;exact hv)|(rw[h]at hv;exact hv)
 |A, .own T,v,h,hv=>by cases A<;>simp only[Wk]at h<;>first|(cases h;done)|(cases h;exact hv)|(rw[h]at hv;exact hv)
 |A, .ownS T off n,v,h,hv=>by cases A<;>simp only[Wk]at h<;>first|(cases h;done)|(cases h;exact hv)|(rw[h]at hv;exact hv)
 |A, .mp T,v,h,hv=>by cases A<;>simp only[Wk]at h<;>first|(cases h;done)|(cases h;exact hv)|(rw[h]at hv;exact hv)
 |A, .ptr T i f,v,h,hv=>by cases A<;>simp only[Wk]at h<;>first|(cases h;done)|(cases h;exact hv)|(rw[h]at hv;exact hv)
theorem WkL.vr{G:Gr}:∀(l m:List TV) (vs:List Value),WkL l m→ie G l vs→ie G m vs
 |[],[],vs,_,hv=>hv
 |a::l,b::m,vs,h,hv=>by
  obtain⟨u,r,rfl,h1,h2⟩:=hv;exact⟨u,r,rfl,Wk.vr a b u h.1 h1,WkL.vr l m r h.2 h2⟩
 |[],b::m,vs,h,_=>h.elim
 |a::l,[],vs,h,_=>h.elim
end
mutual
theorem Wk.refl:∀(A:TV),Wk A A
 | .any=>trivial
 | .fn f l=>⟨rfl,WkL.refl l⟩
 | .agg l=>WkL.refl l
 | .tup l=>WkL.refl l
 | .cond c a=>⟨rfl,Wk.refl a⟩
 | .nl _ a=>⟨rfl,Wk.refl a⟩
 | .int _ _=>rfl
 | .bool _=>rfl
 | .val _=>rfl
 | .e0=>rfl
 | .sl _ _ _=>rfl
 | .rptr _ _ _ _ _=>rfl
 | .dm _ _ _ _=>rfl
 | .own _=>rfl
 | .ownS _ _ _=>rfl
 | .ptr _ _ _=>rfl
 | .mp _=>rfl
theorem WkL.refl:∀(l:List TV),WkL l l
 |[]=>trivial
 |a::l=>⟨Wk.refl a,WkL.refl l⟩
end
mutual
theorem Wk.kill{θ:TG→Ac}(hθ:∀T,θ T= .id∨θ T= .kill):∀(A:TV),Wk A (A.sb θ)
 | .any=>trivial
 | .fn f l=>⟨rfl,WkL.kill hθ l⟩
 | .agg l=>WkL.kill hθ l
 | .tup l=>WkL.kill hθ l
 | .cond c a=>⟨rfl,Wk.kill hθ a⟩
 | .nl _ a=>⟨rfl,Wk.kill hθ a⟩
 | .int _ _=>rfl
 | .bool _=>rfl
 | .val _=>rfl
 | .e0=>rfl
 | .sl _ _ _=>rfl
 | .rptr _ _ _ _ _=>rfl
 | .dm _ _ _ _=>rfl
 | .own T=>by rcases hθ T with e|e<;>simp[TV.sb,e,Wk]
 | .ownS T _ _=>by rcases hθ T with e|e<;>simp[TV.sb,e,Wk]
 | .mp T=>by rcases hθ T with e|e<;>simp[TV.sb,e,Wk]
 | .ptr T _ _=>by rcases hθ T with e|e<;>simp[TV.sb,e,Wk]
theorem WkL.kill{θ:TG→Ac}(hθ:∀T,θ T= .id∨θ T= .kill):∀(l:List TV),WkL l (TV.sbL θ l)
 |[]=>trivial
 |a::l=>⟨Wk.kill hθ a,WkL.kill hθ l⟩
end
theorem qan{a:Ac}(h:a.isId=true):a= .id:=by cases a<;>simp_all[Ac.isId]
mutual
theorem Wk.sb{θ:TG→Ac}:∀(A B:TV),Wk A B→B.all (fun T=>(θ T).isId)=true→Wk (A.sb θ) B
 |A, .any,_,_=>by cases A<;>first|trivial|(simp only[TV.sb];first|trivial|(split<;>trivial))
 | .fn f l, .fn g m,h,ha=>⟨h.1,WkL.sb l m h.2 ha⟩
 | .agg l, .agg m,h,ha=>WkL.sb l m h ha
 | .tup l, .tup m,h,ha=>WkL.sb l m h ha
 | .cond c a, .cond c' b,h,ha=>⟨h.1,Wk.sb a b h.2 ha⟩
 | .nl _ a, .nl _ b,h,ha=>⟨h.1,Wk.sb a b h.2 ha⟩
 |A, .int k n,h,ha=>by cases A<;>simp only[Wk]at h<;>first|(cases h;done)|exact h
 |A, .bool b,h,ha=>by cases A<;>simp only[Wk]at h<;>first|(cases h;done)|exact h
 |A, .val u,h,ha=>by cases A<;>simp only[Wk]at h<;>first|(cases h;done)|exact h
 |A, .e0,h,ha=>by cases A<;>simp only[Wk]at h<;>first|(cases h;done)|trivial
 |A, .sl fr t xs,h,ha=>by cases A<;>simp only[Wk]at h<;>first|(cases h;done)|exact h
 |A, .rptr fr t xs i f,h,ha=>by cases A<;>simp only[Wk]at h<;>first|(cases h;done)|exact h
 |A, .dm fr kt vt es,h,ha=>by cases A<;>simp only[Wk]at h<;>first|(cases h;done)|exact h
 |A, .own T,h,ha=>by cases A<;>simp only[Wk]at h<;>first|(cases h;done)|(cases h;simp only[TV.all]at ha;simp only[TV.sb,qan ha,Wk])
 |A, .ownS T off n,h,ha=>by cases A<;>simp only[Wk]at h<;>first|(cases h;done)|(cases h;simp only[TV.all]at ha;simp only[TV.sb,qan ha,Wk])
 |A, .mp T,h,ha=>by cases A<;>simp only[Wk]at h<;>first|(cases h;done)|(cases h;simp only[TV.all]at ha;simp only[TV.sb,qan ha,Wk])
 |A, .ptr T i f,h,ha=>by cases A<;>simp only[Wk]at h<;>first|(cases h;done)|(cases h;simp only[TV.all]at ha;simp only[TV.sb,qan ha,Wk])
theorem WkL.sb{θ:TG→Ac}:∀(l m:List TV),WkL l m→TV.allL (fun T=>(θ T).isId) m=true→WkL (TV.sbL θ l) m
 |[],[],_,_=>trivial
 |a::l,b::m,h,ha=>by
  simp only[TV.allL,Bool.and_eq_true]at ha;exact⟨Wk.sb a b h.1 ha.1,WkL.sb l m h.2 ha.2⟩
 |[],b::m,h,_=>h.elim
 |a::l,[],h,_=>h.elim
end
mutual
theorem qy8{θ:TG→Ac}:∀(A:TV),A.all (fun T=>(θ T).isId)=true→A.sb θ=A
 | .any,_=>rfl
 | .fn f l,h=>by simp only[TV.sb,qih l h]
 | .agg l,h=>by simp only[TV.sb,qih l h]
 | .tup l,h=>by simp only[TV.sb,qih l h]
 | .cond c a,h=>by simp only[TV.sb,qy8 a h]
 | .nl _ a,h=>by simp only[TV.sb,qy8 a h]
 | .int _ _,_=>rfl
 | .bool _,_=>rfl
 | .val _,_=>rfl
 | .e0,_=>rfl
 | .sl _ _ _,_=>rfl
 | .rptr _ _ _ _ _,_=>rfl
 | .dm _ _ _ _,_=>rfl
 | .own T,h=>by simp only[TV.all]at h;simp only[TV.sb,qan h]
 | .ownS T _ _,h=>by simp only[TV.all]at h;simp only[TV.sb,qan h]
 | .ptr T _ _,h=>by simp only[TV.all]at h;simp only[TV.sb,qan h]
 | .mp T,h=>by simp only[TV.all]at h;simp only[TV.sb,qan h]
theorem qih{θ:TG→Ac}:∀(l:List TV),TV.allL (fun T=>(θ T).isId) l=true→TV.sbL θ l=l
 |[],_=>rfl
 |a::l,h=>by
  simp only[TV.allL,Bool.and_eq_true]at h;simp only[TV.sbL,qy8 a h.1,qih l h.2]
end
theorem q6a{θ:TG→Ac}(o:TOb)(h:o.all (fun T=>(θ T).isId)=true):o.sb θ=o:=by
 cases o with
 |cs ty sz n l=>simp only[TOb.sb,qih l h]
 |_=>rfl
theorem qwz{p:TG→Bool}:∀{H:List TOb},qwy p H=true→∀(t:Nat) o,H[t]? =some o→o.all p=true
 |[],_,t,o,h=>by simp at h
 |a::l,hp,t,o,h=>by
  simp only[qwy,Bool.and_eq_true]at hp;cases t with
  |zero=>simp at h;subst h;exact hp.1
  |succ t=>exact qwz hp.2 t o (by simpa using h)
theorem q59{θ:TG→Ac}:∀(H:List TOb),qwy (fun T=>(θ T).isId) H=true→ck θ H=H
 |[],_=>rfl
 |o::l,h=>by
  simp only[qwy,Bool.and_eq_true]at h;simp only[ck,q6a o h.1,q59 l h.2]
theorem qsj{k:Nat}:∀{l:List Nat},pg k l=true↔k∈l
 |[]=>by simp[pg]
 |a::l=>by
  unfold pg;cases e:Nat.beq a k with
  |true=>simp[ar e]
  |false=>
   have:a≠k:=fun e' =>by rw[e',Nat.beq_refl]at e;cases e
   simp only[cond_false,List.mem_cons,qsj (l:=l)];exact⟨.inr,fun h=>h.elim (fun e' =>absurd e'.symm this) id⟩
theorem qsk{k:Nat}{l:List Nat}:pg k l=false↔k∉l:=by
 rw[←qsj (l:=l)];cases pg k l<;>simp
theorem jai(z:List Nat)(T:TG):q0s z T= .id∨q0s z T= .kill:=by
 cases T with
 |o t=>simp only[q0s];cases pg t z<;>simp
 |r t i f=>simp only[q0s];cases pg t z<;>simp
theorem xj(z:List Nat)(A:TV):Wk A (qfg z A):=by
 cases z with
 |nil=>exact Wk.refl A
 |cons a z=>exact Wk.kill (jai _) A
theorem q12(z:List Nat):∀(H:List TOb) (k t:Nat) ob,(qpz z k H)[t]? =some ob→ob= .gone∨(H[t]? =some ob∧(k+t)∉z)
 |[],k,t,ob,h=>by simp[qpz]at h
 |o::l,k,0,ob,h=>by
  simp only[qpz,List.getElem?_cons_zero,Option.some.injEq]at h;cases hb:pg k z with
  |true=>rw[hb]at h;exact .inl h.symm
  |false=>
   rw[hb]at h;exact .inr ⟨by simpa using h,qsk.1 hb⟩
 |o::l,k,t+1,ob,h=>by
  simp only[qpz,List.getElem?_cons_succ]at h;have:=q12 z l (k+1) t ob h;rw[show k+1+t=k+(t+1) by omega]at this;simpa using this
theorem qwv(z:List Nat):∀(H:List TOb) (k:Nat),(qpz z k H).length=H.length
 |[],_=>rfl
 |o::l,k=>by simp[qpz,qwv z l]
theorem q11{z:List Nat}{H:List TOb}{t:Nat}{ob:TOb}(h:(qjw z H)[t]? =some ob):ob= .gone∨(H[t]? =some ob∧t∉z):=by
 cases z with
 |nil=>exact .inr ⟨h,by simp⟩
 |cons a z=>simpa using q12 (a::z) H 0 t ob h
theorem qo1(z:List Nat)(H:List TOb):(qjw z H).length=H.length:=by
 cases z with
 |nil=>rfl
 |cons a z=>exact qwv _ H 0
theorem qs9{t:Nat}:∀{k n:Nat},t∈places n k↔n≤t∧t<n+k
 |0,n=>by simp only[places,List.not_mem_nil,false_iff];omega
 |k+1,n=>by
  simp only[places,List.mem_cons,qs9 (k:=k)];omega
def qdo:Nat→List TOb→List TOb→List TOb
 |_,[],H=>H
 |n,o::l,H=>qdo (n+1) l (H.set n o)
theorem v9:∀(l:List TOb) (n:Nat) (H:List TOb),(qdo n l H).length=H.length
 |[],_,_=>rfl
 |o::l,n,H=>by simp[qdo,v9 l]
theorem xx:∀(l:List TOb) (n:Nat) (H:List TOb),n+l.length≤H.length→∀t,(qdo n l H)[t]? =if n≤t∧t<n+l.length then l[t-n]? else H[t]?
 |[],n,H,_,t=>by simp only[qdo,List.length_nil];rw[if_neg (by omega)]
 |o::l,n,H,h,t=>by
  simp only[List.length_cons]at h;simp only[qdo,List.length_cons];rw[xx l (n+1) (H.set n o) (by simp;omega) t];by_cases e:t=n
  ·subst e;rw[if_neg (by omega),if_pos (by omega),List.getElem?_set_self (by omega)];simp
  ·rw[List.getElem?_set_ne (Ne.symm e)];by_cases h1:n+1≤t∧t<n+1+l.length
   ·rw[if_pos h1,if_pos (by omega),show t-n=(t-(n+1))+1 by omega,List.getElem?_cons_succ]
   ·rw[if_neg h1,if_neg (by omega)]
theorem qst:∀{δ:List St} {n:Nat} {obs:List TOb},ya n δ=some obs→∀t o,St.new t o∈δ→n≤t∧t<n+obs.length
 |[],n,obs,h,t,o,hm=>by simp at hm
 | .new t' o' ::δ,n,obs,h,t,o,hm=>by
  simp only[ya]at h;obtain⟨hb,h⟩:=ah h;split at h
  ·rename_i r hr;cases h;have:=ar hb;rcases List.mem_cons.1 hm with e|hm
   ·cases e;simp;omega
   ·have:=qst hr t o hm;simp;omega
  ·cases h
 | .sb θ::δ,n,obs,h,t,o,hm=>by simp[ya]at h
 | .set t' o' ::δ,n,obs,h,t,o,hm=>by simp[ya]at h
theorem qzw:∀{δ:List St} {n:Nat} {obs:List TOb} (s:TS),ya n δ=some obs→n+obs.length≤s.H.length→s.aps δ=⟨s.S,qdo n obs s.H⟩
 |[],n,obs,s,h,_=>by simp only[ya,Option.some.injEq]at h;subst h;rfl
 | .new t' o' ::δ,n,obs,s,h,hl=>by
  simp only[ya]at h;obtain⟨hb,h⟩:=ah h;split at h
  ·rename_i r hr;cases h;have:=ar hb;subst this;simp only[List.length_cons]at hl;have e:s.ap (.new t' o')=⟨s.S,s.H.set t' o'⟩:=by
    simp only[TS.ap,sAp,hAp,fa];rw[show Nat.blt t' s.H.length=true by simp[Nat.blt_eq];omega];rfl
   show(s.ap (.new t' o')).aps δ=_;rw[e,qzw _ hr (by simp;omega)];rfl
  ·cases h
 | .sb θ::δ,n,obs,s,h,_=>by simp[ya]at h
 | .set t' o' ::δ,n,obs,s,h,_=>by simp[ya]at h
end Go.K
namespace Go.K
open Go.M Go.RowKit
theorem qq4{l:List Oper}{i:Nat}{o:Oper}(h:l[i]? =some o):qn2 l i=onN o:=by simp only[qn2,h,onN]
theorem q0t{i:Nat}:∀{l:List Nat},qv1 i l=true→∀k∈l,k<i
 |[],_,k,h=>by simp at h
 |a::l,hl,k,h=>by
  unfold qv1 at hl;cases hb:Nat.blt a i with
  |false=>rw[hb]at hl;cases hl
  |true=>
   rw[hb]at hl;rcases List.mem_cons.1 h with rfl|h
   ·exact dg hb
   ·exact q0t hl k h
theorem qt9{bq:List Nat}:∀{l:List Oper} {i0:Nat},qm2 bq i0 l=true→∀(j:Nat) o,l[j]? =some o→bq.getD (i0+j) 0=qpx bq (onN o)∧∀k∈onN o,k<i0+j
 |[],_,_,j,o,h=>by simp at h
 |a::l,i0,ht,j,o,h=>by
  unfold qm2 at ht;obtain⟨hb,ht⟩:(Nat.beq (bq.getD i0 0) (qpx bq (onN a))&&qv1 i0 (onN a))=true∧qm2 bq (i0+1) l=true:=by
   cases hb:(Nat.beq (bq.getD i0 0) (qpx bq (onN a))&&qv1 i0 (onN a))with
   |false=>rw[hb]at ht;cases ht
   |true=>rw[hb]at ht;exact⟨rfl,ht⟩
  simp only[Bool.and_eq_true]at hb;cases j with
  |zero=>
   simp at h;subst h;exact⟨ar hb.1,q0t hb.2⟩
  |succ j=>
   have:=qt9 ht j o (by simpa using h);rw[show i0+(j+1)=i0+1+j by omega];exact this
theorem qwu{bq:List Nat}{j:Nat}:∀{l:List Nat},Nat.testBit (qpx bq l) j=true→∃k∈l,j=k∨Nat.testBit (bq.getD k 0) j=true
 |[],h=>by simp[qpx]at h
 |a::l,h=>by
  have h' :Nat.testBit (((1<<<a)|||bq.getD a 0)|||qpx bq l) j=true:=h;rw[Nat.testBit_or,Nat.testBit_or,Bool.or_eq_true,Bool.or_eq_true]at h';rcases h' with(h' |h')|h'
  ·rw[Nat.one_shiftLeft,Nat.testBit_two_pow,decide_eq_true_eq]at h';exact⟨a,List.mem_cons_self, .inl h'.symm⟩
  ·exact⟨a,List.mem_cons_self, .inr h'⟩
  ·obtain⟨k,hk,hj⟩:=qwu h';exact⟨k,List.mem_cons_of_mem _ hk,hj⟩
theorem q2c{bq:List Nat}{l:List Oper}(ht:qm2 bq 0 l=true){D:Nat→Bool}(hcl:qne l D):∀(i:Nat) o,l[i]? =some o→(∀k∈qn2 l i,D k=true)→∀j,inW bq j i=true→D j=true:=by
 intro i
 induction i using Nat.strongRecOn with
 |_ i ih=>
  intro o ho hon j hj;obtain⟨h1,h2⟩:=qt9 ht i o ho;rw[Nat.zero_add]at h1 h2;unfold inW at hj;rw[h1]at hj;obtain⟨k,hk,hjk⟩:=qwu hj;rw[qq4 ho]at hon;have hDk:=hon k hk;rcases hjk with rfl|hjk
  ·exact hDk
  ·have hlt:=h2 k hk;have hil:i<l.length:=(List.getElem?_eq_some_iff.1 ho).1;exact ih k hlt l[k] (List.getElem?_eq_getElem (by omega)) (fun m hm=>hcl k hDk m hm) j hjk
theorem qqu{bq:List Nat}{l:List Oper}(ht:qm2 bq 0 l=true){D:Nat→Bool}(hcl:qne l D){i:Nat}{o:Oper}(ho:l[i]? =some o)(hD:D i=true){j:Nat}(hj:inW bq j i=true):D j=true:=
 q2c ht hcl i o ho (fun k hk=>hcl i hD k hk) j hj
theorem qw9{a b:Bool}(h:(bif a then b else false)=true):a=true∧b=true:=by cases a<;>simp_all
theorem qwh{ops:List Oper}{bq rs:List Nat}{i:Nat}{o:Oper}:∀{l:List Oper} {k0:Nat},qyn ops bq rs i o k0 l=true→∀(j:Nat) o',l[j]? =some o' →q5v ops bq rs i o (k0+j) o' =true
 |[],_,_,j,o',h=>by simp at h
 |a::l,k0,hp,j,o',h=>by
  unfold qyn at hp;obtain⟨h1,h2⟩:=qw9 hp;cases j with
  |zero=>simp at h;subst h;exact h1
  |succ j=>
   rw[show k0+(j+1)=k0+1+j by omega];exact qwh h2 j o' (by simpa using h)
theorem qsx{ops:List Oper}{bq rs:List Nat}:∀{l:List Oper} {i0:Nat},qq5 ops bq rs i0 l=true→∀(i k:Nat) o o',i<k→l[i]? =some o→l[k]? =some o' →q5v ops bq rs (i0+i) o (i0+k) o' =true
 |[],_,_,i,k,o,o',_,h,_=>by simp at h
 |a::l,i0,hp,i,k,o,o',hik,h,h' =>by
  unfold qq5 at hp;obtain⟨h1,h2⟩:=qw9 hp;cases k with
  |zero=>omega
  |succ k=>
   cases i with
   |zero=>
    simp at h;subst h;have:=qwh h1 k o' (by simpa using h');rw[show i0+(k+1)=i0+1+k by omega];exact this
   |succ i=>
    have:=qsx h2 i k o o' (by omega) (by simpa using h) (by simpa using h');rw[show i0+(i+1)=i0+1+i by omega,show i0+(k+1)=i0+1+k by omega];exact this
theorem qn{ops:List Oper}{o o' :Oper}(h:qlb ops o o' =false):(∀d,o.dst=some d→d∉usN ops o' ∧o'.dst≠some d)∧∀d,o'.dst=some d→d∉usN ops o:=by
 simp only[qlb,Bool.or_eq_false_iff]at h;refine⟨fun d hd=> ?_,fun d hd=> ?_⟩
 ·rw[hd]at h;simp only[Bool.or_eq_false_iff]at h;refine⟨qsk.1 h.1.1,fun e=> ?_⟩;have:=h.1.2;rw[dN,e]at this;simp only[Nat.beq_refl]at this;cases this
 ·rw[hd]at h;exact qsk.1 h.2
structure Facts (ops : List Oper) (bq rs : List Nat) : Prop where
 tb : qm2 bq 0 ops = true
 aa : ∀ i k o o', i < k → ops[i]? = some o → ops[k]? = some o' → pg i rs = false → inW bq i k = false → qlb ops o o' = false
 rr : ∀ i k o o', i < k → ops[i]? = some o → ops[k]? = some o' → pg i rs = true → pg k rs = true → inW bq i k = true ∨ (qlb ops o o' = false ∧ (x9 o.op = true ∨ x9 o'.op = true))
 ra : ∀ i k o o', i < k → ops[i]? = some o → ops[k]? = some o' → pg i rs = true → pg k rs = false → qlb ops o o' = false
theorem facts{ops:List Oper}{bq rs:List Nat}(h:q9m ops bq rs=true):Facts ops bq rs:=by
 simp only[q9m,Bool.and_eq_true]at h;refine⟨h.1,fun i k o o' hik ho ho' hi hw=> ?_,fun i k o o' hik ho ho' hi hk=> ?_,fun i k o o' hik ho ho' hi hk=> ?_⟩
 all_goals
  have hp:=qsx h.2 i k o o' hik ho ho';rw[Nat.zero_add,Nat.zero_add]at hp;unfold q5v at hp
 ·rw[hi]at hp;simpa[hw]using hp
 ·rw[hi,hk]at hp;simp only[Bool.or_eq_true,Bool.and_eq_true,Bool.not_eq_true']at hp;exact hp
 ·rw[hi,hk]at hp;simpa using hp
section
variable {Rf : Type}
def x7(S0:List (Nat×TV)):List En→List (Nat×TV)
 |[]=>S0
 |e::l=>qqi (x7 S0 l) e.dst e.v
def qm(H0:List TOb):List En→List TOb
 |[]=>H0
 |e::l=>qm H0 l++e.news
def Wn(N:Nat)(l:List Oper)(o:Oper)(S:List (Nat×TV))(b:Bool):Prop:=
 match o.guard with
 |none=>b=true
 |some g=>∃d,qlf l g.1=some d∧d<N∧((∃c,bg S d= .bool c∧(c==g.2)=b)∨(bg S d= .undef∧b=false))
structure EnOK (X : Ctx Rf) (l : List Oper) (bq rs τ : List Nat) (S0 : List (Nat × TV)) (H0 : List TOb) (recs : List En) (e : En) (o : Oper) : Prop where
 at_ : l[e.i]? = some o
 dst : e.dst = o.dst
 free : pg e.i rs = false
 wk : e.wk = qi o.op
 n : e.n = (qm H0 recs).length
 lt : ∀ e' ∈ recs, e'.i < e.i
 run : (Wn X.N l o (x7 S0 recs) true ∧ e.xs = o.op.operands.toList.map (fun x => qfg (zR bq e.i recs) (evT X.N (x7 S0 recs) x)) ∧ HvW o.op e.Hv (qjw (zA bq rs τ e.i recs) (qm H0 recs)) ∧
     ∃ δ, qb8 X o.op (fun x => qfg (zR bq e.i recs) (evT X.N (x7 S0 recs) x)) e.Hv rt = some (δ, e.v) ∧ ya e.n δ = some e.news) ∨
   (Wn X.N l o (x7 S0 recs) false ∧ e.v = .undef ∧ e.news = [] ∧ e.Hv = [] ∧ e.xs = [])
def Tr(X:Ctx Rf)(l:List Oper)(bq rs τ:List Nat)(S0:List (Nat×TV))(H0:List TOb):List En→Prop
 |[]=>True
 |e::recs=>Tr X l bq rs τ S0 H0 recs∧∃o,EnOK X l bq rs τ S0 H0 recs e o
def Cov(l:List Oper)(rs:List Nat)(recs:List En)(m:Nat):Prop:=∀j,j<m→j<l.length→pg j rs=false→∃e∈recs,e.i=j
theorem Wn.ext{N:Nat}{l:List Oper}{o:Oper}{S S' :List (Nat×TV)}{b:Bool}(h:∀t,bg S t=bg S' t)(hw:Wn N l o S b):Wn N l o S' b:=by
 unfold Wn at hw⊢;cases hg:o.guard with
 |none=>rw[hg]at hw;exact hw
 |some g=>
  rw[hg]at hw;obtain⟨d,h1,h2,h3⟩:=hw;simp only[];refine⟨d,h1,h2,?_⟩;rw[←h];exact h3
theorem qef{R:Type}{N:Nat}{all:List Oper}{o:Oper}{g:Nat×Bool}(hg:o.guard=some g){S:List (Nat×TV)}{run skip:List (Nat×TV)→Option R}{r:R}(h:q90 N all g S run skip=some r):
  ∃S1,(∀t,bg S1 t=bg S t)∧((Wn N all o S true∧run S1=some r)∨(Wn N all o S false∧skip S1=some r)):=by
 unfold q90 at h;unfold Wn;rw[hg];split at h
 ·rename_i d hgd;refine⟨S,fun _=>rfl, .inr ⟨?_,h⟩⟩;unfold q20 at hgd;split at hgd
  ·rename_i d' hd;split at hgd
   ·cases hgd
   ·rename_i e;cases hgd;unfold rd at e;cases hb:Nat.blt d N with
    |false=>rw[hb]at e;cases e
    |true=>rw[hb]at e;exact⟨d,hd,dg hb, .inr ⟨e,rfl⟩⟩
   ·cases hgd
  ·cases hgd
 ·rename_i d b hgd;have hd:qlf all g.1=some d∧d<N∧bg S d= .bool b:=by
   unfold q20 at hgd;split at hgd
   ·rename_i d' hd;split at hgd
    ·rename_i b' e;cases hgd;unfold rd at e;cases hb:Nat.blt d N with
     |false=>rw[hb]at e;cases e
     |true=>rw[hb]at e;exact⟨hd,dg hb,e⟩
    ·cases hgd
    ·cases hgd
   ·cases hgd
  obtain⟨h1,h2,h3⟩:=hd;have hext:∀b',b=b' →∀t,bg ((d,TV.bool b')::S) t=bg S t:=by
   rintro b' rfl t;rw[mg];split
   ·rename_i e;rw[←e,h3]
   ·rfl
  obtain⟨g1,g2⟩:=g;simp only[]at h h1⊢;cases g2 with
  |true=>
   simp only[]at h;cases b with
   |true=>exact⟨_,hext true rfl, .inl ⟨⟨d,h1,h2, .inl ⟨true,h3,rfl⟩⟩,h⟩⟩
   |false=>exact⟨_,hext false rfl, .inr ⟨⟨d,h1,h2, .inl ⟨false,h3,rfl⟩⟩,h⟩⟩
  |false=>
   simp only[]at h;cases b with
   |true=>exact⟨_,hext true rfl, .inr ⟨⟨d,h1,h2, .inl ⟨true,h3,rfl⟩⟩,h⟩⟩
   |false=>exact⟨_,hext false rfl, .inl ⟨⟨d,h1,h2, .inl ⟨false,h3,rfl⟩⟩,h⟩⟩
 ·cases h
end
end Go.K
namespace Go.K
open Go.M Go.RowKit
section
variable {R Rf : Type} {X : Ctx Rf} {l : List Oper} {bq rs τ : List Nat} {S0 : List (Nat × TV)} {H0 : List TOb}
theorem q4i:∀{l:List Bool},ic l→qgn l=true
 |[],_=>rfl
 |c::l,h=>by
  simp only[qgn,Bool.and_eq_true];exact⟨h c List.mem_cons_self,q4i fun d hd=>h d (List.mem_cons_of_mem _ hd)⟩
theorem qbe{S S' :List (Nat×TV)}(h:∀t,bg S t=bg S' t)(d:Option Tmp)(v:TV)(t:Nat):bg (qqi S d v) t=bg (qqi S' d v) t:=by
 simp only[gz,h]
theorem jee{k:List (Nat×TV)→List TOb→List En→Option R}{r:R}:∀(ops:List Oper) (i:Nat) (S:List (Nat×TV)) (recs:List En),l.drop i=ops→Tr X l bq rs τ S0 H0 recs→(∀e∈recs,e.i<i)→Cov l rs recs i→(∀t,bg S t=bg (x7 S0 recs) t)→
  qy5 X l bq rs τ ops i S (qm H0 recs) recs k=some r→∃recs' S',Tr X l bq rs τ S0 H0 recs' ∧Cov l rs recs' l.length∧(∀t,bg S' t=bg (x7 S0 recs') t)∧k S' (qm H0 recs') recs' =some r:=by
 intro ops
 induction ops with
 |nil=>
  intro i S recs hd ht hlt hc hS h;have hi:l.length≤i:=by
   have:=congrArg List.length hd;simp at this;omega
  exact⟨recs,S,ht,fun j hj hj' hm=>hc j (by omega) hj' hm,hS,h⟩
 |cons o rest ih=>
  intro i S recs hd ht hlt hc hS h;have hil:i<l.length:=by
   have:=congrArg List.length hd;simp at this;omega
  have hoi:l[i]? =some o:=by
   have:=List.drop_eq_getElem_cons hil;rw[hd]at this;rw[List.getElem?_eq_getElem hil];injection this with h1 h2
   rw[h1]
  have hdr:l.drop (i+1)=rest:=by
   have:=List.drop_eq_getElem_cons hil;rw[hd]at this;injection this with h1 h2
   exact h2.symm
  have hnext:∀(e:En) S',e.i=i→Tr X l bq rs τ S0 H0 (e::recs)→(∀t,bg S' t=bg (x7 S0 (e::recs)) t)→qy5 X l bq rs τ rest (i+1) S' (qm H0 (e::recs)) (e::recs) k=some r→
    ∃recs' S',Tr X l bq rs τ S0 H0 recs' ∧Cov l rs recs' l.length∧(∀t,bg S' t=bg (x7 S0 recs') t)∧k S' (qm H0 recs') recs' =some r:=by
   intro e S' hei htr hS' hrun;refine ih (i+1) S' (e::recs) hdr htr (fun e' he' => ?_) (fun j hj hjl hm=> ?_) hS' hrun
   ·rcases List.mem_cons.1 he' with rfl|he'
    ·omega
    ·have:=hlt e' he';omega
   ·by_cases e' :j=i
    ·exact⟨e,List.mem_cons_self,by omega⟩
    ·obtain⟨e1,h1,h2⟩:=hc j (by omega) hjl hm;exact⟨e1,List.mem_cons_of_mem _ h1,h2⟩
  have hop:∀S1,(∀t,bg S1 t=bg (x7 S0 recs) t)→pg i rs=false→Wn X.N l o (x7 S0 recs) true→opA X bq rs τ i o S1 (qm H0 recs) recs (fun S' H' recs' =>qy5 X l bq rs τ rest (i+1) S' H' recs' k)=some r→
    ∃recs' S',Tr X l bq rs τ S0 H0 recs' ∧Cov l rs recs' l.length∧(∀t,bg S' t=bg (x7 S0 recs') t)∧k S' (qm H0 recs') recs' =some r:=by
   intro S1 hS1 hm hw hopA;unfold opA at hopA;rw[q47 hS1]at hopA;obtain⟨δ,v,hk,hst⟩:=qwt hopA;split at hk
   ·rename_i obs hobs;refine hnext ⟨i,o.dst,o.op.operands.toList.map (fun x=>qfg (zR bq i recs) (evT X.N (x7 S0 recs) x)),_,(qm H0 recs).length,obs,v,qi o.op⟩ _ rfl ⟨ht,o,hoi,rfl,hm,rfl,rfl,fun e' he' =>hlt e' he', .inl ⟨hw,rfl,jnh _ _ _ _,δ,hst,hobs⟩⟩ (qbe hS1 o.dst v) hk
   ·cases hk
  unfold qy5 at h;cases hm:pg i rs with
  |true=>
   rw[hm]at h;exact ih (i+1) S recs hdr ht (fun e he=>by have:=hlt e he;omega) (fun j hj hjl hm' =>by
    by_cases e:j=i
    ·subst e;rw[hm]at hm';cases hm'
    ·exact hc j (by omega) hjl hm') hS h
  |false=>
   rw[hm]at h;simp only[cond_false]at h;split at h
   ·rename_i hg;exact hop S hS hm (by unfold Wn;rw[hg]) h
   ·rename_i g hg;obtain⟨S1,hext,hcase⟩:=qef hg h;have hS1:∀t,bg S1 t=bg (x7 S0 recs) t:=fun t=>(hext t).trans (hS t)
    rcases hcase with⟨hw,hrun⟩|⟨hw,hrun⟩
    ·exact hop S1 hS1 hm (hw.ext hS) hrun
    ·refine hnext ⟨i,o.dst,[],[],(qm H0 recs).length,[], .undef,qi o.op⟩ _ rfl ⟨ht,o,hoi,rfl,hm,rfl,rfl,fun e' he' =>hlt e' he', .inr ⟨hw.ext hS,rfl,rfl,rfl,rfl⟩⟩ (qbe hS1 o.dst .undef) ?_;simp only[qm,List.append_nil];exact hrun
structure RE where
 i : Nat
 dst : Option Tmp
 δ : List St
 v : TV
def canR(s:TS):List RE→TS
 |[]=>s
 |e::l=>((canR s l).aps e.δ).put e.dst e.v
structure REOK (X : Ctx Rf) (l : List Oper) (bq rs : List Nat) (recs : List En) (s : TS) (rest : List RE) (e : RE) (o : Oper) : Prop where
 at_ : l[e.i]? = some o
 dst : e.dst = o.dst
 wr : pg e.i rs = true
 lt : ∀ e' ∈ rest, e'.i < e.i
 ord : qj9 bq e.i rs = true ∨ ql7 e.δ = true
 run : (Wn X.N l o (canR s rest).S true ∧ qb8 X o.op (fun x => qfg (zR bq e.i recs) (evT X.N (canR s rest).S x)) (qjw (zR bq e.i recs) (canR s rest).H) rt = some (e.δ, e.v) ∧ qi3 bq e.i e.δ recs = true) ∨
   (Wn X.N l o (canR s rest).S false ∧ e.δ = [] ∧ e.v = .undef)
def TrR(X:Ctx Rf)(l:List Oper)(bq rs:List Nat)(recs:List En)(s:TS):List RE→Prop
 |[]=>True
 |e::rest=>TrR X l bq rs recs s rest∧∃o,REOK X l bq rs recs s rest e o
def jca(l:List Oper)(rs:List Nat)(res:List RE)(m:Nat):Prop:=∀j,j<m→j<l.length→pg j rs=true→∃e∈res,e.i=j
theorem jef{recs:List En}{s0:TS}{k:TS→Option R}{r:R}:∀(ops:List Oper) (i:Nat) (s:TS) (res:List RE),l.drop i=ops→TrR X l bq rs recs s0 res→(∀e∈res,e.i<i)→jca l rs res i→Ext s (canR s0 res)→
  qy6 X l bq rs recs ops i s k=some r→∃res' s',TrR X l bq rs recs s0 res' ∧jca l rs res' l.length∧Ext s' (canR s0 res')∧k s' =some r:=by
 intro ops
 induction ops with
 |nil=>
  intro i s res hd ht hlt hc hS h;have hi:l.length≤i:=by
   have:=congrArg List.length hd;simp at this;omega
  exact⟨res,s,ht,fun j hj hj' hm=>hc j (by omega) hj' hm,hS,h⟩
 |cons o rest ih=>
  intro i s res hd ht hlt hc hS h;have hil:i<l.length:=by
   have:=congrArg List.length hd;simp at this;omega
  have hoi:l[i]? =some o:=by
   have:=List.drop_eq_getElem_cons hil;rw[hd]at this;rw[List.getElem?_eq_getElem hil];injection this with h1 h2
   rw[h1]
  have hdr:l.drop (i+1)=rest:=by
   have:=List.drop_eq_getElem_cons hil;rw[hd]at this;injection this with h1 h2
   exact h2.symm
  have hnext:∀(e:RE) s',e.i=i→TrR X l bq rs recs s0 (e::res)→Ext s' (canR s0 (e::res))→qy6 X l bq rs recs rest (i+1) s' k=some r→
    ∃res' s',TrR X l bq rs recs s0 res' ∧jca l rs res' l.length∧Ext s' (canR s0 res')∧k s' =some r:=by
   intro e s' hei htr hS' hrun;refine ih (i+1) s' (e::res) hdr htr (fun e' he' => ?_) (fun j hj hjl hm=> ?_) hS' hrun
   ·rcases List.mem_cons.1 he' with rfl|he'
    ·omega
    ·have:=hlt e' he';omega
   ·by_cases e' :j=i
    ·exact⟨e,List.mem_cons_self,by omega⟩
    ·obtain⟨e1,h1,h2⟩:=hc j (by omega) hjl hm;exact⟨e1,List.mem_cons_of_mem _ h1,h2⟩
  have hop:∀s1,Ext s1 (canR s0 res)→pg i rs=true→Wn X.N l o (canR s0 res).S true→opR X bq rs recs i o s1 (fun s' =>qy6 X l bq rs recs rest (i+1) s' k)=some r→
    ∃res' s',TrR X l bq rs recs s0 res' ∧jca l rs res' l.length∧Ext s' (canR s0 res')∧k s' =some r:=by
   intro s1 hS1 hm hw hopR;unfold opR at hopR;rw[q47 hS1.S,hS1.H]at hopR;obtain⟨δ,v,hk,hst⟩:=qwt hopR;split at hk
   ·rename_i cs hcs;obtain⟨hord,hk⟩:=ah hk;obtain⟨hok,hk⟩:=bj hk;exact hnext ⟨i,o.dst,δ,v⟩ _ rfl ⟨ht,o,hoi,rfl,hm,fun e' he' =>hlt e' he',(Bool.or_eq_true _ _▸hord), .inl ⟨hw,hst,qn1 hcs (q4i hok)⟩⟩ ((hS1.aps δ).put o.dst v) hk
   ·cases hk
  unfold qy6 at h;cases hm:pg i rs with
  |false=>
   rw[hm]at h;exact ih (i+1) s res hdr ht (fun e he=>by have:=hlt e he;omega) (fun j hj hjl hm' =>by
    by_cases e:j=i
    ·subst e;rw[hm]at hm';cases hm'
    ·exact hc j (by omega) hjl hm') hS h
  |true=>
   rw[hm]at h;simp only[cond_true]at h;split at h
   ·rename_i hg;exact hop s hS hm (by unfold Wn;rw[hg]) h
   ·rename_i g hg;obtain⟨S1,hext,hcase⟩:=qef hg h;have hS1:Ext ⟨S1,s.H⟩ (canR s0 res):=⟨hS.H,fun t=>(hext t).trans (hS.S t)⟩;rcases hcase with⟨hw,hrun⟩|⟨hw,hrun⟩
    ·exact hop _ hS1 hm (hw.ext hS.S) hrun
    ·exact hnext ⟨i,o.dst,[], .undef⟩ _ rfl ⟨ht,o,hoi,rfl,hm,fun e' he' =>hlt e' he', .inr rfl, .inr ⟨hw.ext hS.S,rfl,rfl⟩⟩ (hS1.put o.dst .undef) hrun
def c7(S0:List (Nat×TV))(H0:List TOb)(D:Nat→Bool):List En→TS
 |[]=>⟨S0,H0⟩
 |e::l=>if D e.i=true then⟨qqi (c7 S0 H0 D l).S e.dst e.v,(c7 S0 H0 D l).H++e.news⟩else⟨(c7 S0 H0 D l).S,(c7 S0 H0 D l).H++List.replicate e.news.length .gone⟩
def uo(D:Nat→Bool)(s:TS):List RE→TS
 |[]=>s
 |e::l=>if D e.i=true then((uo D s l).aps e.δ).put e.dst e.v else uo D s l
theorem qa9(D:Nat→Bool):∀(recs:List En),(c7 S0 H0 D recs).H.length=(qm H0 recs).length
 |[]=>rfl
 |e::l=>by
  unfold c7 qm;split<;>simp[qa9 D l]
theorem qt2{D:Nat→Bool}{t:Nat}:∀{recs:List En},(∀e∈recs,e.dst=some t→D e.i=true)→bg (c7 S0 H0 D recs).S t=bg (x7 S0 recs) t
 |[],_=>rfl
 |e::l,h=>by
  have ih:=qt2 (D:=D) (t:=t) (recs:=l) fun e' he' =>h e' (List.mem_cons_of_mem _ he')
  unfold c7 x7;split
  ·simp only[gz,ih]
  ·rename_i hd;have:e.dst≠some t:=fun e' =>hd (h e List.mem_cons_self e')
   simp only[gz,if_neg this,ih]
theorem Tr.bnd:∀{recs:List En},Tr X l bq rs τ S0 H0 recs→∀e∈recs,H0.length≤e.n∧e.n+e.news.length≤(qm H0 recs).length
 |[],_,e,h=>by simp at h
 |e' ::recs,ht,e,h=>by
  obtain⟨ht,o,he⟩:=ht;have hle:H0.length≤(qm H0 recs).length:=by
   clear ht he h
   induction recs with
   |nil=>exact Nat.le_refl _
   |cons a m ih=>simp only[qm,List.length_append];omega
  rcases List.mem_cons.1 h with rfl|h
  ·rw[he.n];simp only[qm,List.length_append];omega
  ·have:=Tr.bnd ht e h;simp only[qm,List.length_append];omega
theorem q32{D:Nat→Bool}{t:Nat}:∀{recs:List En},Tr X l bq rs τ S0 H0 recs→(∀e∈recs,e.n≤t→t<e.n+e.news.length→D e.i=true)→(c7 S0 H0 D recs).H[t]? =(qm H0 recs)[t]?
 |[],_,_=>rfl
 |e::recs,ht,h=>by
  obtain⟨ht,o,he⟩:=ht;have ih:=q32 (D:=D) (t:=t) ht fun e' he' =>h e' (List.mem_cons_of_mem _ he')
  have hl:=qa9 (S0:=S0) (H0:=H0) D recs;unfold c7 qm;split
  ·simp only[List.getElem?_append,hl,ih]
  ·rename_i hd;rcases Nat.lt_or_ge t (qm H0 recs).length with h1|h1
   ·rw[List.getElem?_append_left (by omega),List.getElem?_append_left h1,ih]
   ·have:¬t<e.n+e.news.length:=fun h2=>hd (h e List.mem_cons_self (by rw[he.n];exact h1) h2)
    rw[he.n]at this;rw[List.getElem?_eq_none (by simp;omega),List.getElem?_eq_none (by simp;omega)]
theorem q1s{D:Nat→Bool}{t:Nat}:∀{recs:List En},Tr X l bq rs τ S0 H0 recs→∀e∈recs,D e.i=false→e.n≤t→t<e.n+e.news.length→(c7 S0 H0 D recs).H[t]? =some .gone
 |[],_,e,h,_,_,_=>by simp at h
 |e' ::recs,ht,e,h,hD,h1,h2=>by
  obtain⟨ht,o,he⟩:=ht;have hl:=qa9 (S0:=S0) (H0:=H0) D recs;rcases List.mem_cons.1 h with rfl|h
  ·unfold c7;rw[if_neg (by simp[hD])];simp only[];rw[List.getElem?_append_right (by rw[hl,←he.n];exact h1),List.getElem?_replicate,if_pos (by rw[hl,←he.n];omega)]
  ·have ih:=q1s (D:=D) (t:=t) ht e h hD h1 h2;have hb:=(Tr.bnd ht e h).2;unfold c7;split<;>(simp only[];rw[List.getElem?_append_left (by omega)];exact ih)
end
end Go.K
namespace Go.K
open Go.M Go.RowKit
section
variable {R Rf : Type} {X : Ctx Rf} {l : List Oper} {bq rs τ : List Nat} {S0 : List (Nat × TV)} {H0 : List TOb}
def apE(e:En)(s:TS):TS:=⟨qqi s.S e.dst e.v,qdo e.n e.news s.H⟩
theorem Ext.apE{s s' :TS}(h:Ext s s')(e:En):Ext (apE e s) (apE e s'):=⟨by simp only[Go.K.apE,h.H],qbe h.S e.dst e.v⟩
theorem qor{n:Nat}{news H Y:List TOb}(h:n+news.length≤H.length):qdo n news (H++Y)=qdo n news H++Y:=by
 apply List.ext_getElem?;intro t;rw[xx _ _ _ (by simp;omega)];rcases Nat.lt_or_ge t H.length with h1|h1
 ·rw[List.getElem?_append_left h1,List.getElem?_append_left (by rw[v9];exact h1),xx _ _ _ h]
 ·rw[if_neg (by omega),List.getElem?_append_right h1,List.getElem?_append_right (by rw[v9];exact h1),v9]
theorem q8e{news H:List TOb}:qdo H.length news (H++List.replicate news.length .gone)=H++news:=by
 apply List.ext_getElem?;intro t;rw[xx _ _ _ (by simp)];rcases Nat.lt_or_ge t H.length with h1|h1
 ·rw[if_neg (by omega),List.getElem?_append_left h1,List.getElem?_append_left h1]
 ·rw[List.getElem?_append_right h1,List.getElem?_append_right h1,List.getElem?_replicate];by_cases h2:t<H.length+news.length
  ·rw[if_pos ⟨h1,h2⟩]
  ·rw[if_neg (by omega),if_neg (by omega),List.getElem?_eq_none (by omega)]
theorem qoy{D D' :Nat→Bool}:∀{recs:List En},(∀e∈recs,D e.i=D' e.i)→c7 S0 H0 D recs=c7 S0 H0 D' recs
 |[],_=>rfl
 |e::m,h=>by
  unfold c7;rw[h e List.mem_cons_self,qoy fun e' he' =>h e' (List.mem_cons_of_mem _ he')]
theorem qce{D:Nat→Bool}{i k:Nat}(h:k≠i):l0 D i k=D k:=by simp[l0,h]
theorem q0a{D:Nat→Bool}{i:Nat}:l0 D i i=true:=by simp[l0]
theorem q6h{D:Nat→Bool}:∀{recs:List En},Tr X l bq rs τ S0 H0 recs→∀e∈recs,D e.i=false→(∀e' ∈recs,e.i<e'.i→D e'.i=true→∀d,e'.dst=some d→e.dst≠some d)→Ext (c7 S0 H0 (l0 D e.i) recs) (apE e (c7 S0 H0 D recs))
 |[],_,e,h,_,_=>by simp at h
 |e1::recs,ht,e,h,hD,hdst=>by
  obtain⟨ht,o,he⟩:=ht;rcases List.mem_cons.1 h with rfl|h
  ·have hc:c7 S0 H0 (l0 D e.i) recs=c7 S0 H0 D recs:=qoy fun e' he' =>qce (by have:=he.lt e' he';omega)
   unfold c7;rw[if_pos q0a,if_neg (by simp[hD]),hc];refine⟨?_,fun t=>rfl⟩;simp only[apE];have hn:e.n=(c7 S0 H0 D recs).H.length:=by rw[qa9,he.n]
   rw[hn,q8e]
  ·have hlt:=he.lt e h;have ih:=q6h ht e h hD fun e' he' =>hdst e' (List.mem_cons_of_mem _ he')
   have hb:=(Tr.bnd ht e h).2;have hl:=qa9 (S0:=S0) (H0:=H0) D recs;have e0:l0 D e.i e1.i=D e1.i:=qce (by omega);unfold c7;rw[e0];split
   ·rename_i hD1;refine⟨?_,fun t=> ?_⟩
    ·simp only[apE];rw[ih.H,qor (by omega)];rfl
    ·simp only[apE,gz,ih.S];by_cases h1:e1.dst=some t
     ·have:=hdst e1 List.mem_cons_self hlt hD1 t h1;rw[if_pos h1,if_neg this,if_pos h1]
     ·rw[if_neg h1,if_neg h1]
   ·refine⟨?_,fun t=> ?_⟩
    ·simp only[apE];rw[ih.H,qor (by omega)];rfl
    ·simp only[apE,ih.S]
theorem qwm{n t:Nat}{news H:List TOb}{o:TOb}(hb:n+news.length≤H.length)(ht:t<n∨n+news.length≤t):(qdo n news H).set t o=qdo n news (H.set t o):=by
 apply List.ext_getElem?;intro t';rw[xx _ _ _ (by rw[List.length_set];exact hb)];by_cases h1:t=t'
 ·subst h1;rw[if_neg (by omega)];rcases Nat.lt_or_ge t H.length with h2|h2
  ·rw[List.getElem?_set_self (by rw[v9];exact h2),List.getElem?_set_self h2]
  ·rw[List.getElem?_eq_none (by rw[List.length_set,v9];exact h2),List.getElem?_eq_none (by rw[List.length_set];exact h2)]
 ·rw[List.getElem?_set_ne h1,List.getElem?_set_ne h1,xx _ _ _ hb]
theorem jg8{e:En}{s:TS}{x:St}(hok:zn e x=true)(hb:e.n+e.news.length≤s.H.length):Ext ((apE e s).ap x) (apE e (s.ap x))∧e.n+e.news.length≤(s.ap x).H.length:=by
 cases x with
 |sb θ=>
  simp only[zn,Bool.and_eq_true]at hok;obtain⟨⟨⟨_,_⟩,h3⟩,h4⟩:=hok;refine⟨⟨?_,fun t=> ?_⟩,by simp only[TS.ap,hAp,cm];exact hb⟩
  ·simp only[TS.ap,hAp,apE];apply List.ext_getElem?;intro t;rw[gc,xx _ _ _ hb,xx _ _ _ (by rw[cm];exact hb)];split
   ·rw[←gc,q59 _ h3]
   ·rw[gc]
  ·simp only[TS.ap,sAp,apE,fe,gz];split
   ·exact qy8 _ h4
   ·rfl
 |set t o=>
  simp only[zn,Bool.and_eq_true,Bool.or_eq_true]at hok;have ht:t<e.n∨e.n+e.news.length≤t:=hok.1.imp dg tk;refine⟨⟨?_,fun t=>rfl⟩,by simp only[TS.ap,hAp,List.length_set];exact hb⟩;simp only[TS.ap,hAp,apE];exact qwm hb ht
 |new t o=>
  simp only[zn,Bool.and_eq_true]at hok;have ht:=tk hok.1;simp only[TS.ap,hAp,fa,apE,v9];cases hblt:Nat.blt t s.H.length with
  |true=>
   simp only[cond_true];refine⟨⟨?_,fun t=>rfl⟩,by rw[List.length_set];exact hb⟩;exact qwm hb (.inr ht)
  |false=>
   simp only[cond_false];refine⟨⟨?_,fun t=>rfl⟩,by rw[List.length_append];omega⟩;simp only[];rw[qor hb]
theorem q4k{e:En}:∀{δ:List St} {s:TS},p3 e δ=true→e.n+e.news.length≤s.H.length→Ext ((apE e s).aps δ) (apE e (s.aps δ))∧e.n+e.news.length≤(s.aps δ).H.length
 |[],s,_,hb=>⟨Ext.refl _,hb⟩
 |x::δ,s,hok,hb=>by
  simp only[p3,Bool.and_eq_true]at hok;obtain⟨h1,h2⟩:=jg8 hok.1 hb;obtain⟨h3,h4⟩:=q4k hok.2 h2;exact⟨(h1.aps δ).trans h3,h4⟩
theorem jcg{e:En}{s:TS}{d:Option Tmp}{v:TV}(h:∀t,d=some t→e.dst≠some t):Ext ((apE e s).put d v) (apE e (s.put d v)):=by
 rw[gn,gn];refine⟨rfl,fun t=> ?_⟩;simp only[apE,gz];by_cases h1:d=some t
 ·rw[if_pos h1,if_neg (h t h1),if_pos h1]
 ·rw[if_neg h1,if_neg h1]
theorem qpk(s:TS)(d:Option Tmp)(v:TV):(s.put d v).H=s.H:=by cases d<;>rfl
theorem q6j{e:En}{D D' :Nat→Bool}{s s' :TS}(hb:e.n+e.news.length≤s.H.length)(he:Ext s' (apE e s)):∀{res:List RE},(∀re∈res,D' re.i=D re.i)→(∀re∈res,D re.i=true→p3 e re.δ=true∧∀t,re.dst=some t→e.dst≠some t)→
  Ext (uo D' s' res) (apE e (uo D s res))∧e.n+e.news.length≤(uo D s res).H.length
 |[],_,_=>⟨he,hb⟩
 |re::res,hD,h=>by
  obtain⟨h1,h2⟩:=q6j hb he (res:=res) (fun r hr=>hD r (List.mem_cons_of_mem _ hr)) (fun r hr=>h r (List.mem_cons_of_mem _ hr));unfold uo;rw[hD re List.mem_cons_self];split
  ·rename_i hd;obtain⟨h3,h4⟩:=h re List.mem_cons_self hd;obtain⟨h5,h6⟩:=q4k h3 h2;refine⟨(((h1.aps re.δ).trans h5).put re.dst re.v).trans (jcg h4),by rw[qpk];exact h6⟩
  ·exact⟨h1,h2⟩
theorem CsW.sb{ob ob' :TOb}{θ:TG→Ac}(h:CsW ob ob')(ha:ob.all (fun T=>(θ T).isId)=true):CsW ob (ob'.sb θ):=by
 obtain⟨ty,sz,n,cs,rfl,h0,⟨cs',rfl,hc⟩|⟨md,its,u,xs,rfl,e1,e2,hc⟩⟩:=h
 ·refine⟨ty,sz,n,cs,rfl,h0, .inl ⟨_,rfl,fun i=> ?_⟩⟩;rcases hc i with e|e
  ·exact .inl e
  ·refine .inr ?_;have e3:TV.sbL θ cs=cs:=qih cs ha;rw[TV.sbL_at,←e,←TV.sbL_at,e3]
 ·exact⟨ty,sz,n,cs,rfl,h0, .inr ⟨md,its,u,xs,rfl,e1,e2,hc⟩⟩
theorem q9b{v v' :TV}{l:List Bool}(h:q9a v v' =some l)(hl:qgn l=true):v= .any∨v=v' :=by
 unfold q9a at h;split at h
 ·exact .inl rfl
 ·split at h
  ·rename_i e;cases h;subst e;simp only[qgn,Bool.and_true,decide_eq_true_eq]at hl;exact .inr (by rw[hl])
  ·cases h
 ·cases h;simp only[qgn,Bool.and_true,beq_iff_eq]at hl;exact .inr (by rw[hl])
 ·obtain⟨h1,_⟩:=ah h;exact .inr (by rw[ar h1])
 ·cases h
theorem qnj:∀{cs cs' :List TV} {l:List Bool},qni cs cs' =some l→qgn l=true→∀i,cs.getD i .any= .any∨cs.getD i .any=cs'.getD i .any
 |[],_,_,_,_,i=> .inl rfl
 |v::cs,[],l,h,hl,i=>by
  simp only[qni]at h;split at h
  ·cases i with
   |zero=>exact .inl rfl
   |succ i=>exact qnj (cs:=cs) (cs' :=[]) h hl i
  ·cases h
 |v::cs,v' ::cs',l,h,hl,i=>by
  simp only[qni]at h;split at h
  ·rename_i a ha;split at h
   ·rename_i b hb;cases h;obtain⟨h1,h2⟩:=qk1 hl;cases i with
    |zero=>exact q9b ha h1
    |succ i=>exact qnj hb h2 i
   ·cases h
  ·cases h
theorem q4j:∀{cs:List TV},jg7 cs=true→∀i,cs.getD i .any= .any
 |[],_,i=>rfl
 | .any::cs,h,0=>rfl
 | .any::cs,h,i+1=>q4j (cs:=cs) h i
 | .int _ _::_,h,_=>by cases h
 | .bool _::_,h,_=>by cases h
 | .val _::_,h,_=>by cases h
 | .e0::_,h,_=>by cases h
 | .sl _ _ _::_,h,_=>by cases h
 | .rptr _ _ _ _ _::_,h,_=>by cases h
 | .dm _ _ _ _::_,h,_=>by cases h
 | .own _::_,h,_=>by cases h
 | .ownS _ _ _::_,h,_=>by cases h
 | .ptr _ _ _::_,h,_=>by cases h
 | .mp _::_,h,_=>by cases h
 | .fn _ _::_,h,_=>by cases h
 | .agg _::_,h,_=>by cases h
 | .tup _::_,h,_=>by cases h
 | .cond _ _::_,h,_=>by cases h
 | .nl _ _::_,h,_=>by cases h
theorem jbs{wk:Bool}{ob o:TOb}(h:q6c wk ob o=true):ob= .gone∨(wk=true∧CsW ob o):=by
 unfold q6c at h;split at h
 ·rename_i l hl;unfold jbt at hl;split at hl
  ·exact .inl rfl
  ·rename_i ty sz n cs;have h1:=(ah hl).1
   replace hl:=(ah hl).2
   simp only[Bool.and_eq_true]at h1;refine .inr ⟨h1.1,?_⟩;split at hl
   ·rename_i ty' sz' n' cs';have h2:=(ah hl).1
    replace hl:=(ah hl).2
    simp only[Bool.and_eq_true]at h2;have e1:=ar h2.1.1;have e2:=ar h2.1.2;have e3:=ar h2.2;subst e1 e2 e3;exact⟨_,_,_,_,rfl,dg h1.2, .inl ⟨_,rfl,qnj hl h⟩⟩
   ·rename_i ty' md its u xs;have h2:=(ah hl).1
    replace hl:=(ah hl).2
    simp only[Bool.and_eq_true]at h2;have e1:=ar h2.1.1;have e2:=ar h2.1.2;subst e1 e2;cases hl;simp only[qgn,Bool.and_true,decide_eq_true_eq]at h;exact⟨_,_,_,_,rfl,dg h1.2, .inr ⟨_,_,_,_,rfl,rfl,h.symm,q4j h2.2⟩⟩
   ·cases hl
  ·cases hl
 ·cases h
structure Seen (N : Nat) (l : List Oper) (e : En) (o : Oper) (ex : Operand → TV) (b : Bool) (s : TS) : Prop where
 hv : ∀ (t : Nat) (ob : TOb), e.Hv[t]? = some ob → ob = .gone ∨ s.H[t]? = some ob ∨ (qi o.op = true ∧ ∃ ob', s.H[t]? = some ob' ∧ CsW ob ob')
 xs : b = true → ∀ x ∈ o.op.operands, Wk (evT N s.S x) (ex x)
 gd : Wn N l o s.S b
 fr : ∀ t : Nat, e.n ≤ t → t < e.n + e.news.length → s.H[t]? = some TOb.gone
theorem jkx{N:Nat}{S:List (Nat×TV)}{θ:TG→Ac}{x:Operand}{B:TV}(h:Wk (evT N S x) B)(ha:B.all (fun T=>(θ T).isId)=true):Wk (evT N (um θ S) x) B:=by
 cases x with
 |tmp t=>
  simp only[evT,rd]at h⊢;cases hb:Nat.blt t N with
  |false=>rw[hb]at h;exact h
  |true=>
   rw[hb]at h;simp only[cond_true]at h⊢;rw[fe];exact Wk.sb _ _ h ha
 |_=>exact h
theorem Wn.sb{N:Nat}{l:List Oper}{o:Oper}{S:List (Nat×TV)}{b:Bool}(θ:TG→Ac)(h:Wn N l o S b):Wn N l o (um θ S) b:=by
 unfold Wn at h⊢;cases hg:o.guard with
 |none=>rw[hg]at h;exact h
 |some g=>
  rw[hg]at h;obtain⟨d,h1,h2,h3⟩:=h;simp only[];refine⟨d,h1,h2,?_⟩;rw[fe];rcases h3 with⟨c,e,h4⟩|⟨e,h4⟩
  ·exact .inl ⟨c,by rw[e];rfl,h4⟩
  ·exact .inr ⟨by rw[e];rfl,h4⟩
theorem Seen.ap{N:Nat}{e:En}{o:Oper}{ex:Operand→TV}{b:Bool}{s:TS}(h:Seen N l e o ex b s)(hwk:e.wk=qi o.op)(hxs:b=true→e.xs=o.op.operands.toList.map ex){x:St}(hok:zn e x=true):Seen N l e o ex b (s.ap x):=by
 cases x with
 |sb θ=>
  simp only[zn,Bool.and_eq_true]at hok;obtain⟨⟨⟨h1,h2⟩,h3⟩,h4⟩:=hok;refine⟨fun t ob ho=> ?_,fun hb x hx=> ?_,h.gd.sb θ,fun t t1 t2=> ?_⟩
  ·rcases h.hv t ob ho with e1|e1|⟨hl,ob',e1,hc⟩
   ·exact .inl e1
   ·refine .inr (.inl ?_);simp only[TS.ap,hAp,gc,e1,Option.map_some];rw[q6a ob (qwz h2 t ob ho)]
   ·refine .inr (.inr ⟨hl,ob'.sb θ,?_,hc.sb (qwz h2 t ob ho)⟩);simp only[TS.ap,hAp,gc,e1,Option.map_some]
  ·refine jkx (h.xs hb x hx) ?_;rw[hxs hb]at h1;have:∀{l:List TV} {p:TG→Bool},TV.allL p l=true→∀A∈l,A.all p=true:=by
    intro l p
    induction l with
    |nil=>intro _ A hA;simp at hA
    |cons B l ih=>
     intro ha A hA;simp only[TV.allL,Bool.and_eq_true]at ha;rcases List.mem_cons.1 hA with rfl|hA
     ·exact ha.1
     ·exact ih ha.2 A hA
   exact this h1 _ (List.mem_map.2 ⟨x,by simpa using hx,rfl⟩)
  ·simp only[TS.ap,hAp,gc,h.fr t t1 t2];rfl
 |set t' o' =>
  simp only[zn,Bool.and_eq_true,Bool.or_eq_true]at hok;have ht:t' <e.n∨e.n+e.news.length≤t' :=hok.1.imp dg tk;refine⟨fun t ob ho=> ?_,h.xs,h.gd,fun t t1 t2=> ?_⟩
  ·have key:∀ob0,s.H[t]? =some ob0→t' =t→ob= .gone∨(s.ap (.set t' o')).H[t]? =some ob∨(qi o.op=true∧∃ob',(s.ap (.set t' o')).H[t]? =some ob' ∧CsW ob ob'):=by
    intro ob0 h0 e2;subst e2;have h2:=hok.2;rw[List.getD_eq_getElem?_getD,ho,Option.getD_some]at h2;rcases jbs h2 with e3|⟨e3,e4⟩
    ·exact .inl e3
    ·refine .inr (.inr ⟨by rw[←hwk];exact e3,o',?_,e4⟩);simp only[TS.ap,hAp];exact List.getElem?_set_self (List.getElem?_eq_some_iff.1 h0).1
   rcases h.hv t ob ho with e1|e1|⟨hl,ob',e1,hc⟩
   ·exact .inl e1
   ·by_cases e2:t' =t
    ·exact key _ e1 e2
    ·refine .inr (.inl ?_);simp only[TS.ap,hAp,List.getElem?_set_ne e2];exact e1
   ·by_cases e2:t' =t
    ·exact key _ e1 e2
    ·refine .inr (.inr ⟨hl,ob',?_,hc⟩);simp only[TS.ap,hAp,List.getElem?_set_ne e2];exact e1
  ·simp only[TS.ap,hAp];rw[List.getElem?_set_ne (by omega)];exact h.fr t t1 t2
 |new t' o' =>
  simp only[zn,Bool.and_eq_true]at hok;have ht:=tk hok.1;have ht2:=tk hok.2;have key:∀t ob,t≠t' →s.H[t]? =some ob→(fa s.H t' o')[t]? =some ob:=by
   intro t ob hne hs;unfold fa;cases Nat.blt t' s.H.length with
   |true=>simp only[cond_true];rw[List.getElem?_set_ne (Ne.symm hne)];exact hs
   |false=>simp only[cond_false];rw[List.getElem?_append_left (List.getElem?_eq_some_iff.1 hs).1];exact hs
  refine⟨fun t ob ho=> ?_,h.xs,h.gd,fun t t1 t2=>key t _ (by omega) (h.fr t t1 t2)⟩;have:t<e.Hv.length:=(List.getElem?_eq_some_iff.1 ho).1;rcases h.hv t ob ho with e1|e1|⟨hl,ob',e1,hc⟩
  ·exact .inl e1
  ·exact .inr (.inl (key t ob (by omega) e1))
  ·exact .inr (.inr ⟨hl,ob',key t ob' (by omega) e1,hc⟩)
theorem Seen.aps{N:Nat}{e:En}{o:Oper}{ex:Operand→TV}{b:Bool}(hwk:e.wk=qi o.op)(hxs:b=true→e.xs=o.op.operands.toList.map ex):∀{δ:List St} {s:TS},Seen N l e o ex b s→p3 e δ=true→Seen N l e o ex b (s.aps δ)
 |[],s,h,_=>h
 |x::δ,s,h,hok=>by
  simp only[p3,Bool.and_eq_true]at hok;exact Seen.aps hwk hxs (δ:=δ) (s:=s.ap x) (h.ap hwk hxs hok.1) hok.2
theorem jhx{N:Nat}{S:List (Nat×TV)}{d:Option Tmp}{v:TV}{x:Operand}(h:∀t,x= .tmp t→d≠some t):evT N (qqi S d v) x=evT N S x:=by
 cases x with
 |tmp t=>simp only[evT,rd,gz,if_neg (h t rfl)]
 |_=>rfl
theorem q4b{l:List Oper}{o:Oper}{t:Nat}(h:Operand.tmp t∈o.op.operands):t∈usN l o:=
 List.mem_append.2 (.inl (List.mem_filterMap.2 ⟨.tmp t,by simpa using h,rfl⟩))
theorem jkm{l:List Oper}{o:Oper}{g:Nat×Bool}{d:Nat}(hg:o.guard=some g)(hd:qlf l g.1=some d):d∈usN l o:=by
 refine List.mem_append.2 (.inr ?_);rw[hg];simp only[hd];simp
theorem Wn.slots{N:Nat}{l:List Oper}{o:Oper}{S S' :List (Nat×TV)}{b:Bool}(h:∀t∈usN l o,bg S t=bg S' t)(hw:Wn N l o S b):Wn N l o S' b:=by
 unfold Wn at hw⊢;cases hg:o.guard with
 |none=>rw[hg]at hw;exact hw
 |some g=>
  rw[hg]at hw;obtain⟨d,h1,h2,h3⟩:=hw;simp only[];refine⟨d,h1,h2,?_⟩;rw[←h d (jkm hg h1)];exact h3
theorem Seen.put{N:Nat}{e:En}{o:Oper}{ex:Operand→TV}{b:Bool}{s:TS}(h:Seen N l e o ex b s){d:Option Tmp}{v:TV}(hd:∀t,d=some t→t∉usN l o):Seen N l e o ex b (s.put d v):=by
 rw[gn];refine⟨h.hv,fun hb x hx=> ?_,h.gd.slots fun t ht=> ?_,h.fr⟩
 ·rw[jhx (fun t e1 e2=>hd t e2 (q4b (by rw[←e1];exact hx)))];exact h.xs hb x hx
 ·rw[gz,if_neg fun e2=>hd t e2 ht]
theorem qt3{N:Nat}{e:En}{o:Oper}{ex:Operand→TV}{b:Bool}(hwk:e.wk=qi o.op)(hxs:b=true→e.xs=o.op.operands.toList.map ex){D:Nat→Bool}{s:TS}(hg:Seen N l e o ex b s):∀{res:List RE},(∀re∈res,D re.i=true→p3 e re.δ=true∧∀t,re.dst=some t→t∉usN l o)→Seen N l e o ex b (uo D s res)
 |[],_=>hg
 |re::res,h=>by
  have ih:=qt3 hwk hxs hg (res:=res) fun r hr=>h r (List.mem_cons_of_mem _ hr)
  unfold uo;split
  ·rename_i hd;obtain⟨h1,h2⟩:=h re List.mem_cons_self hd;exact(Seen.aps hwk hxs ih h1).put h2
  ·exact ih
end
end Go.K
namespace Go.K
open Go.M Go.RowKit
section
variable {U : Nat → Prop} {w0 : World} {σ0 : Pl} {K : Nat → Bool} {N : Nat} {P : Program}
theorem df.heapEq{s:TS}{a:Act}{w w' :World}{σ:Pl}(h:df U w0 σ0 K N s a w σ)(h1:w'.heap=w.heap)(h2:w'.os=w.os)(h3:w'.tape=w.tape)(h4:w'.output=w.output):df U w0 σ0 K N s a w' σ:=by
 have hV:∀T:TG,¬False→vw s.H T=(vw s.H T).map (Vw.sb fun _=> .id):=fun T _=>(qcl _).symm
 have hm:Mv (fun _=> .id) (gr U (vw s.H) w σ) (gr U (vw s.H) w' σ):=
  Mv.upd h.hr (fun _=>False) (by rw[h1];exact Nat.le_refl _) hV (fun T _=>rfl) (fun T g o _ _=>by rw[h1]) (fun b _ _=>by rw[h1]) (fun T g o hT=>hT.elim) (fun T q _ T' e=>by cases e) (fun T T' q hT=>hT.elim) (fun T fr u xs q e=>by cases e)
 refine ARel.go h hm (fun t=>(TV.sb_id _).symm) ?_;exact h.hr.upd (fun _=>False) hm hV (fun T _=>rfl) (fun T g o _ _=>by rw[h1]) (fun T v hT=>hT.elim) (fun T p hT=>hT.elim) (fun T g o hT=>hT.elim) h.hr.inj h2 h3 h4 (fun t _ hT=>hT.elim) (fun t g o _ hT=>hT.elim)
theorem q0b:∀(l:List Oper) (j:Nat),qlf l j=(l[j]?).bind (·.dst)
 |[],j=>by simp[qlf]
 |o::l,0=>rfl
 |o::l,j+1=>by simpa[qlf]using q0b l j
theorem te{l:List Oper}{s:TS}{a:Act}{w:World}{σ:Pl}(h:df U w0 σ0 K N s a w σ){o:Oper}{b:Bool}(hw:Wn N l o s.S b):Region.wanted o (yielded l.toArray a.tmps)=b:=by
 unfold Wn at hw;cases hg:o.guard with
 |none=>rw[hg]at hw;subst hw;simp[Region.wanted,hg]
 |some g=>
  rw[hg]at hw;obtain⟨d,h1,h2,h3⟩:=hw;obtain⟨v,hv,hV⟩:=h.slot d h2;obtain⟨gj,gw⟩:=g;simp only[Region.wanted,hg,yielded];have e1:((l.toArray[gj]?).bind (·.dst))=some d:=by rw[q0b]at h1;simpa using h1
  rw[e1];simp only[Option.bind_some,hv];rcases h3 with⟨c,e,h4⟩|⟨e,h4⟩
  ·rw[e]at hV;simp only[VR]at hV;subst hV;rw[←h4];cases c<;>cases gw<;>rfl
  ·rw[e]at hV;simp only[VR,Bool.false_eq_true,if_false]at hV;subst hV;rw[h4];rfl
end
section
variable {R Rf : Type} {X : Ctx Rf} {l : List Oper} {bq rs τ : List Nat} {S0 : List (Nat × TV)} {H0 : List TOb}
theorem Tr.at_:∀{recs:List En},Tr X l bq rs τ S0 H0 recs→∀e∈recs,∃o,l[e.i]? =some o∧e.dst=o.dst∧pg e.i rs=false
 |[],_,e,h=>by simp at h
 |e' ::recs,ht,e,h=>by
  obtain⟨ht,o,he⟩:=ht;rcases List.mem_cons.1 h with rfl|h
  ·exact⟨o,he.at_,he.dst,he.free⟩
  ·exact Tr.at_ ht e h
theorem Tr.split:∀{recs:List En},Tr X l bq rs τ S0 H0 recs→∀e∈recs,∃later earlier o,recs=later++e::earlier∧Tr X l bq rs τ S0 H0 earlier∧EnOK X l bq rs τ S0 H0 earlier e o∧∀e' ∈later,e.i<e'.i
 |[],_,e,h=>by simp at h
 |e1::recs,ht,e,h=>by
  obtain⟨ht,o,he⟩:=ht;rcases List.mem_cons.1 h with rfl|hm
  ·exact⟨[],recs,o,rfl,ht,he,fun e' he' =>by simp at he'⟩
  ·obtain⟨later,earlier,o',h1,h2,h3,h4⟩:=Tr.split ht e hm;refine⟨e1::later,earlier,o',by rw[h1];rfl,h2,h3,fun e' he' => ?_⟩;rcases List.mem_cons.1 he' with rfl|he'
   ·exact he.lt e hm
   ·exact h4 e' he'
theorem qm0(D:Nat→Bool)(e:En)(m:List En):c7 S0 H0 D (e::m)=if D e.i=true then⟨qqi (c7 S0 H0 D m).S e.dst e.v,(c7 S0 H0 D m).H++e.news⟩else⟨(c7 S0 H0 D m).S,(c7 S0 H0 D m).H++List.replicate e.news.length .gone⟩:=rfl
theorem qh7{D:Nat→Bool}{t:Nat}{m:List En}:∀{later:List En},(∀e∈later,e.dst=some t→D e.i=false)→bg (c7 S0 H0 D (later++m)).S t=bg (c7 S0 H0 D m).S t
 |[],_=>rfl
 |e::later,h=>by
  have ih:=qh7 (m:=m) (later:=later) fun e' he' =>h e' (List.mem_cons_of_mem _ he')
  rw[List.cons_append,qm0];split
  ·rename_i hd;have:e.dst≠some t:=fun e1=>by rw[h e List.mem_cons_self e1]at hd;cases hd
   simp only[gz,if_neg this];exact ih
  ·exact ih
theorem qh6{D:Nat→Bool}{t:Nat}{m:List En}(ht:t<(c7 S0 H0 D m).H.length):∀{later:List En},t<(c7 S0 H0 D (later++m)).H.length∧(c7 S0 H0 D (later++m)).H[t]? =(c7 S0 H0 D m).H[t]?
 |[]=>⟨ht,rfl⟩
 |e::later=>by
  obtain⟨h1,h2⟩:=qh6 ht (later:=later);rw[List.cons_append,qm0];split
  ·exact⟨by simp only[List.length_append];omega,by simp only[];rw[List.getElem?_append_left h1];exact h2⟩
  ·exact⟨by simp only[List.length_append];omega,by simp only[];rw[List.getElem?_append_left h1];exact h2⟩
theorem qzh{i:Nat}{t:Nat}:∀{recs:List En},t∉zR bq i recs→∀e∈recs,e.n≤t→t<e.n+e.news.length→inW bq e.i i=true
 |[],_,e,h,_,_=>by simp at h
 |e' ::recs,hz,e,h,h1,h2=>by
  unfold zR at hz;cases hb:inW bq e'.i i with
  |true=>
   rw[hb]at hz;rcases List.mem_cons.1 h with rfl|h
   ·exact hb
   ·exact qzh hz e h h1 h2
  |false=>
   rw[hb]at hz;simp only[cond_false,List.mem_append,not_or]at hz;rcases List.mem_cons.1 h with rfl|h
   ·exact absurd (qs9.2 ⟨h1,h2⟩) hz.1
   ·exact qzh hz.2 e h h1 h2
theorem jfb(hF:Facts l bq rs){D:Nat→Bool}(hcl:qne l D){recs later earlier:List En}{e:En}{o:Oper}(hr:recs=later++e::earlier)(ht:Tr X l bq rs τ S0 H0 recs)(hte:Tr X l bq rs τ S0 H0 earlier)(he:EnOK X l bq rs τ S0 H0 earlier e o)(hlt:∀e' ∈later,e.i<e'.i)
  (hD:D e.i=false) (hW:∀j,inW bq j e.i=true→D j=true) {b:Bool} (hw:Wn X.N l o (x7 S0 earlier) b) (hHv:HvW o.op e.Hv (qjw (zA bq rs τ e.i earlier) (qm H0 earlier))):
  Seen X.N l e o (fun x=>qfg (zR bq e.i earlier) (evT X.N (x7 S0 earlier) x)) b (c7 S0 H0 D recs):=by
 have hslot:∀t∈usN l o,bg (c7 S0 H0 D recs).S t=bg (x7 S0 earlier) t:=by
  intro t htu;have h1:bg (c7 S0 H0 D recs).S t=bg (c7 S0 H0 D (e::earlier)).S t:=by
   rw[hr];refine qh7 fun e' he' hd=> ?_
   cases hb:D e'.i with
   |false=>rfl
   |true=>
    exfalso;obtain⟨o',ho',hd',hm'⟩:=ht.at_ e' (by rw[hr];exact List.mem_append_left _ he');cases hi:inW bq e.i e'.i with
    |true=>rw[qqu hF.tb hcl ho' hb hi]at hD;cases hD
    |false=>
     have:=hF.aa e.i e'.i o o' (hlt e' he') he.at_ ho' he.free hi;exact(qn this).2 t (by rw[←hd'];exact hd) htu
  rw[h1];have h2:bg (c7 S0 H0 D (e::earlier)).S t=bg (c7 S0 H0 D earlier).S t:=by
   rw[qm0,if_neg (by simp[hD])]
  rw[h2];refine qt2 fun e' he' hd=> ?_
  obtain⟨o',ho',hd',hm'⟩:=hte.at_ e' he';cases hi:inW bq e'.i e.i with
  |true=>exact hW _ hi
  |false=>
   have:=hF.aa e'.i e.i o' o (he.lt e' he') ho' he.at_ hm' hi;exact absurd htu ((qn this).1 t (by rw[←hd'];exact hd)).1
 refine⟨fun t ob hob=> ?_,fun _ x hx=> ?_,hw.slots fun t htu=>(hslot t htu).symm,fun t h1 h2=> ?_⟩
 ·have key:∀ob,(qjw (zA bq rs τ e.i earlier) (qm H0 earlier))[t]? =some ob→ob= .gone∨(c7 S0 H0 D recs).H[t]? =some ob:=by
   intro ob hob;rcases q11 hob with hg|⟨h1,h2⟩
   ·exact .inl hg
   ·refine .inr ?_;have hlt' :t<(qm H0 earlier).length:=(List.getElem?_eq_some_iff.1 h1).1;have e0:(c7 S0 H0 D (e::earlier)).H[t]? =(c7 S0 H0 D earlier).H[t]? ∧t<(c7 S0 H0 D (e::earlier)).H.length:=by
     have:=qh6 (S0:=S0) (H0:=H0) (D:=D) (t:=t) (m:=earlier) (by rw[qa9];exact hlt') (later:=[e]);exact⟨this.2,this.1⟩
    rw[hr,(qh6 e0.2).2,e0.1,q32 hte,h1];intro e' he' h3 h4;exact hW _ (qzh (fun hz=>h2 (List.mem_append_right _ hz)) e' he' h3 h4)
  rcases hHv.at_ t ob hob with hg|h1|⟨hl,ob',h1,hc⟩
  ·exact .inl hg
  ·exact(key ob h1).imp_right .inl
  ·rcases key ob' h1 with hg|h2
   ·subst hg;obtain⟨_,_,_,_,_,_,⟨_,h3,_⟩|⟨_,_,_,_,h3,_⟩⟩:=hc<;>cases h3
   ·exact .inr (.inr ⟨hl,ob',h2,hc⟩)
 ·cases x with
  |tmp t=>
   have:=hslot t (q4b hx);simp only[evT,rd,this];exact xj _ _
  |const v=>exact xj _ _
  |func f=>exact xj _ _
  |global g=>exact xj _ _
 ·exact q1s ht e (by rw[hr];simp) hD h1 h2
end
end Go.K
namespace Go.K
open Go.M Go.RowKit
theorem jbn{δ δ' :List St}{v v' :TV}(h:rt δ' v' =some (δ,v)):δ' =δ∧v' =v:=by
 simp only[rt,Option.some.injEq,Prod.mk.injEq]at h;exact h
theorem qv3{Rf:Type}{X:Ctx Rf}{op:Op}(hl:x9 op=true){e:Operand→TV}{H:List TOb}{δ:List St}{v:TV}(h:qb8 X op e H rt=some (δ,v)):δ=[]∧∀H',qb8 X op e H' rt=some (δ,v):=by
 have key:(∃cv:List Bool×TV,∀H',pvT X.wr X.tt H' e op=some cv)→δ=[]∧∀H',qb8 X op e H' rt=some (δ,v):=by
  rintro⟨⟨cs,u⟩,hp⟩;have h1:∀H',qb8 X op e H' rt=ckL cs (rt [] u):=fun H' =>by unfold qb8;rw[hp H']
  rw[h1]at h;obtain⟨_,h2⟩:=bj h;exact⟨(jbn h2).1.symm,fun H' =>(h1 H').trans h⟩
 cases op with
 |move x=>exact key ⟨_,fun _=>rfl⟩
 |assign x=>exact key ⟨_,fun _=>rfl⟩
 |extract x i=>
  cases hp:pvT X.wr X.tt H e (.extract x i)with
  |some cv=>exact key ⟨cv,fun H' =>hp⟩
  |none=>
   unfold qb8 at h;rw[hp]at h;simp only[q9o]at h;cases hb:X.kp.length.ble H.length<;>simp[hb,q2t]at h
 |_=>simp[x9]at hl
section
variable {R Rf : Type} {X : Ctx Rf} {l : List Oper} {bq rs τ : List Nat} {S0 : List (Nat × TV)} {H0 : List TOb} {recs : List En} {s0 : TS}
theorem TrR.at_:∀{res:List RE},TrR X l bq rs recs s0 res→∀e∈res,∃o,l[e.i]? =some o∧e.dst=o.dst∧pg e.i rs=true∧qi3 bq e.i e.δ recs=true
 |[],_,e,h=>by simp at h
 |e' ::res,ht,e,h=>by
  obtain⟨ht,o,he⟩:=ht;rcases List.mem_cons.1 h with rfl|h
  ·refine⟨o,he.at_,he.dst,he.wr,?_⟩;rcases he.run with⟨_,_,h3⟩|⟨_,h2,_⟩
   ·exact h3
   ·rw[h2];have:∀m:List En,qi3 bq e.i [] m=true:=by
     intro m
     induction m with
     |nil=>rfl
     |cons a m ih=>simp[qi3,p3,ih]
    exact this recs
  ·exact TrR.at_ ht e h
theorem TrR.split:∀{res:List RE},TrR X l bq rs recs s0 res→∀e∈res,∃later earlier o,res=later++e::earlier∧REOK X l bq rs recs s0 earlier e o∧∀e' ∈later,e.i<e'.i
 |[],_,e,h=>by simp at h
 |e1::res,ht,e,h=>by
  obtain⟨ht,o,he⟩:=ht;rcases List.mem_cons.1 h with rfl|hm
  ·exact⟨[],res,o,rfl,he,fun e' he' =>by simp at he'⟩
  ·obtain⟨later,earlier,o',h1,h3,h4⟩:=TrR.split ht e hm;refine⟨e1::later,earlier,o',by rw[h1];rfl,h3,fun e' he' => ?_⟩;rcases List.mem_cons.1 he' with rfl|he'
   ·exact he.lt e hm
   ·exact h4 e' he'
theorem q07{i:Nat}{δ:List St}:∀{recs:List En},qi3 bq i δ recs=true→∀e∈recs,inW bq e.i i=true∨p3 e δ=true
 |[],_,e,h=>by simp at h
 |e' ::recs,ho,e,h=>by
  simp only[qi3,Bool.and_eq_true,Bool.or_eq_true]at ho;rcases List.mem_cons.1 h with rfl|h
  ·exact ho.1
  ·exact q07 ho.2 e h
theorem qwq{D:Nat→Bool}{s:TS}{m:List RE}:∀{later:List RE},(∀e∈later,D e.i=false)→uo D s (later++m)=uo D s m
 |[],_=>rfl
 |e::later,h=>by
  show(if D e.i=true then _ else uo D s (later++m))=_;rw[if_neg (by simp[h e List.mem_cons_self])];exact qwq fun e' he' =>h e' (List.mem_cons_of_mem _ he')
theorem q6k{D:Nat→Bool}{s:TS}:∀{m:List RE},(∀e∈m,D e.i=true)→uo D s m=canR s m
 |[],_=>rfl
 |e::m,h=>by
  show(if D e.i=true then((uo D s m).aps e.δ).put e.dst e.v else _)=((canR s m).aps e.δ).put e.dst e.v;rw[if_pos (h e List.mem_cons_self),q6k fun e' he' =>h e' (List.mem_cons_of_mem _ he')]
theorem qwp{D D' :Nat→Bool}{s:TS}:∀{m:List RE},(∀e∈m,D e.i=D' e.i)→uo D s m=uo D' s m
 |[],_=>rfl
 |e::m,h=>by
  show(if D e.i=true then((uo D s m).aps e.δ).put e.dst e.v else uo D s m)=(if D' e.i=true then((uo D' s m).aps e.δ).put e.dst e.v else uo D' s m);rw[h e List.mem_cons_self,qwp fun e' he' =>h e' (List.mem_cons_of_mem _ he')]
theorem TrR.at2:∀{res:List RE},TrR X l bq rs recs s0 res→∀e∈res,(qj9 bq e.i rs=true∨ql7 e.δ=true)∧∀o,l[e.i]? =some o→x9 o.op=true→e.δ=[]
 |[],_,e,h=>by simp at h
 |e' ::res,ht,e,h=>by
  obtain⟨ht,o,he⟩:=ht;rcases List.mem_cons.1 h with rfl|h
  ·refine⟨he.ord,fun o2 h1 hl=> ?_⟩;have:o2=o:=by have:=he.at_;rw[h1]at this;injection this
   subst this;rcases he.run with⟨_,h2,_⟩|⟨_,h2,_⟩
   ·exact(qv3 hl h2).1
   ·exact h2
  ·exact TrR.at2 ht e h
theorem qwg{i:Nat}:∀{m:List Nat},qj9 bq i m=true→∀r∈m,r=i∨inW bq r i=true∨inW bq i r=true
 |[],_,r,h=>by simp at h
 |a::m,ho,r,h=>by
  unfold qj9 at ho;obtain⟨h1,h2⟩:=qw9 ho;rcases List.mem_cons.1 h with rfl|h
  ·simp only[Bool.or_eq_true]at h1;exact h1.imp ar id
  ·exact qwg h2 r h
theorem jjz(ht:qm2 bq 0 l=true){i j:Nat}{o:Oper}(ho:l[i]? =some o)(hj:inW bq j i=true):j<i:=by
 have hcl:qne l (fun k=>decide (k<i)):=fun k hk m hm=>by
  have hk:k<i:=of_decide_eq_true hk;have hkl:k<l.length:=by have:=(List.getElem?_eq_some_iff.1 ho).1;omega
  have hok:l[k]? =some l[k]:=List.getElem?_eq_getElem hkl;have hm2:m∈onN l[k]:=by rw[←qq4 hok];exact hm
  have:=(qt9 ht k _ hok).2 m hm2;exact decide_eq_true (by omega)
 have:=q2c ht hcl i o ho (fun k hk=>by
  have hk2:k∈onN o:=by rw[←qq4 ho];exact hk
  have:=(qt9 ht i o ho).2 k hk2;exact decide_eq_true (by omega)) j hj
 exact of_decide_eq_true this
structure Ind (e e' : RE) : Prop where
 n1 : ql7 e.δ = true
 n2 : ql7 e'.δ = true
 nil : e.δ = [] ∨ e'.δ = []
 ne : ∀ d, e.dst = some d → e'.dst ≠ some d
theorem q98(hF:Facts l bq rs){res:List RE}(ht:TrR X l bq rs recs s0 res){e e' :RE}(he:e∈res)(he' :e' ∈res)(hlt:e.i<e'.i)(hn:inW bq e.i e'.i=false){o o' :Oper}(ho:l[e.i]? =some o)(ho' :l[e'.i]? =some o'):
  Ind e e' ∧qlb l o o' =false∧(x9 o.op=false→e'.δ=[])∧(x9 o'.op=false→e.δ=[]):=by
 obtain⟨o1,h1,d1,m1,_⟩:=ht.at_ e he;obtain⟨o2,h2,d2,m2,_⟩:=ht.at_ e' he';have:o1=o:=by rw[ho]at h1;injection h1 with h1;exact h1.symm
 subst this;have:o2=o' :=by rw[ho']at h2;injection h2 with h2;exact h2.symm
 subst this;obtain⟨r1,l1⟩:=ht.at2 e he;obtain⟨r2,l2⟩:=ht.at2 e' he';rcases hF.rr e.i e'.i o1 o2 hlt ho ho' m1 m2 with h|⟨hc,hl⟩
 ·rw[hn]at h;cases h
 ·have hn' :inW bq e'.i e.i=false:=by
   cases hb:inW bq e'.i e.i with
   |false=>rfl
   |true=>have:=jjz hF.tb ho hb;omega
  have nord:∀{a b:RE},a.i≠b.i→pg b.i rs=true→inW bq a.i b.i=false→inW bq b.i a.i=false→(qj9 bq a.i rs=true∨ql7 a.δ=true)→ql7 a.δ=true:=fun{a b} hne hm w1 w2 hor=>by
   rcases hor with h|h
   ·rcases qwg h b.i (qsj.1 hm)with e1|e1|e1
    ·exact absurd e1.symm hne
    ·rw[w2]at e1;cases e1
    ·rw[w1]at e1;cases e1
   ·exact h
  refine⟨⟨nord (by omega) m2 hn hn' r1,nord (by omega) m1 hn' hn r2,hl.imp (l1 _ ho) (l2 _ ho'),fun d hd=> ?_⟩,hc,fun hl' => ?_,fun hl' => ?_⟩
  ·rw[d2];exact((qn hc).1 d (by rw[←d1];exact hd)).2
  ·rcases hl with hl|hl
   ·rw[hl']at hl;cases hl
   ·exact l2 _ ho' hl
  ·rcases hl with hl|hl
   ·exact l1 _ ho hl
   ·rw[hl']at hl;cases hl
theorem qw3:∀{δ:List St} {s s' :TS},s.H=s'.H→(s.aps δ).H=(s'.aps δ).H
 |[],_,_,h=>h
 |x::δ,s,s',h=>qw3 (δ:=δ) (by simp only[TS.ap,h])
theorem qvg:∀{δ:List St} {s:TS},ql7 δ=true→(s.aps δ).S=s.S
 |[],_,_=>rfl
 | .sb _::_,_,h=>by simp[ql7]at h
 | .set t o::δ,s,h=>(qvg (δ:=δ) (s:=s.ap (.set t o)) h).trans rfl
 | .new t o::δ,s,h=>(qvg (δ:=δ) (s:=s.ap (.new t o)) h).trans rfl
theorem qzx{t:Nat}:∀{δ:List St} {s s' :TS},bg s.S t=bg s'.S t→bg (s.aps δ).S t=bg (s'.aps δ).S t
 |[],_,_,h=>h
 |x::δ,s,s',h=>qzx (δ:=δ) (by
  cases x with
  |sb θ=>simp only[TS.ap,sAp,fe,h]
  |set t o=>exact h
  |new t o=>exact h)
theorem q5z{δ:List St}{s:TS}{d:Option Tmp}{v:TV}(h:ql7 δ=true):Ext ((s.put d v).aps δ) ((s.aps δ).put d v):=by
 refine⟨?_,fun t=> ?_⟩
 ·rw[qpk];exact qw3 (by rw[qpk])
 ·rw[qvg h,gn,gn];simp only[gz,qvg h]
theorem q6l{D:Nat→Bool}{s:TS}{re:RE}{earlier:List RE}(hD:D re.i=false)(he:∀e∈earlier,e.i≠re.i):∀{later:List RE},(∀e∈later,e.i≠re.i)→(∀e∈later,D e.i=true→Ind re e)→
  Ext (uo (l0 D re.i) s (later++re::earlier)) (((uo D s (later++re::earlier)).aps re.δ).put re.dst re.v)
 |[],_,_=>by
  show Ext (if l0 D re.i re.i=true then((uo (l0 D re.i) s earlier).aps re.δ).put re.dst re.v else _) (((if D re.i=true then _ else uo D s earlier).aps re.δ).put re.dst re.v);rw[if_pos q0a,if_neg (by simp[hD]),qwp (D:=l0 D re.i) (D' :=D) fun e hm=>qce (he e hm)];exact Ext.refl _
 |e::later,hl,hi=>by
  have ih:=q6l (s:=s) hD he (later:=later) (fun e' he' =>hl e' (List.mem_cons_of_mem _ he')) (fun e' he' =>hi e' (List.mem_cons_of_mem _ he'));have hne:=hl e List.mem_cons_self;show Ext (if l0 D re.i e.i=true then((uo (l0 D re.i) s (later++re::earlier)).aps e.δ).put e.dst e.v else uo (l0 D re.i) s (later++re::earlier)) (((if D e.i=true then((uo D s (later++re::earlier)).aps e.δ).put e.dst e.v else uo D s (later++re::earlier)).aps re.δ).put re.dst re.v);rw[qce hne];cases hb:D e.i with
  |false=>
   rw[if_neg (by simp),if_neg (by simp)];exact ih
  |true=>
   rw[if_pos rfl,if_pos rfl];have hI:=hi e List.mem_cons_self hb;generalize uo D s (later++re::earlier)=Y at ih;have h1:=((ih.aps e.δ).put e.dst e.v).trans ((q5z hI.n2).put e.dst e.v);have h2:Ext (((Y.aps e.δ).put e.dst e.v).aps re.δ) (((Y.aps e.δ).aps re.δ).put e.dst e.v):=q5z hI.n1;have h3:(Y.aps re.δ).aps e.δ=(Y.aps e.δ).aps re.δ:=by
    rcases hI.nil with h|h<;>rw[h]<;>rfl
   rw[h3]at h1;refine h1.trans (Ext.trans ?_ (h2.put re.dst re.v).symm);generalize(Y.aps e.δ).aps re.δ=Z;refine⟨by simp only[qpk],fun t=> ?_⟩;rw[gn,gn,gn,gn];simp only[gz];by_cases a:e.dst=some t
   ·by_cases b:re.dst=some t
    ·exact absurd a (hI.ne t b)
    ·simp[a,b]
   ·simp[a]
theorem qwr{D:Nat→Bool}{s:TS}{re:RE}{earlier:List RE}{t:Nat}(hD:D re.i=false)(he:∀e∈earlier,D e.i=false→ql7 e.δ=true∧e.dst≠some t):∀{later:List RE},(∀e∈later,D e.i=true→ql7 e.δ=true∧e.dst≠some t)→
  bg (uo D s (later++re::earlier)).S t=bg (canR s earlier).S t
 |[],_=>by
  show bg (if D re.i=true then _ else uo D s earlier).S t=_;rw[if_neg (by simp[hD])];clear hD
  induction earlier with
  |nil=>rfl
  |cons e m ih=>
   have ih:=ih fun e' he' =>he e' (List.mem_cons_of_mem _ he')
   show bg (if D e.i=true then((uo D s m).aps e.δ).put e.dst e.v else uo D s m).S t=bg (((canR s m).aps e.δ).put e.dst e.v).S t;cases hb:D e.i with
   |true=>
    rw[if_pos rfl,gn,gn];simp only[gz];split
    ·rfl
    ·exact qzx ih
   |false=>
    obtain⟨h1,h2⟩:=he e List.mem_cons_self hb;rw[if_neg (by simp),gn];simp only[gz,if_neg h2,qvg h1];exact ih
 |e::later,hl=>by
  have ih:=qwr (s:=s) hD he (later:=later) fun e' he' =>hl e' (List.mem_cons_of_mem _ he')
  show bg (if D e.i=true then((uo D s (later++re::earlier)).aps e.δ).put e.dst e.v else uo D s (later++re::earlier)).S t=_;cases hb:D e.i with
  |true=>
   obtain⟨h1,h2⟩:=hl e List.mem_cons_self hb;rw[if_pos rfl,gn];simp only[gz,if_neg h2,qvg h1];exact ih
  |false=>
   rw[if_neg (by simp)];exact ih
theorem q1t{D:Nat→Bool}{s:TS}{re:RE}{earlier:List RE}(hD:D re.i=false)(he:∀e∈earlier,D e.i=false→e.δ=[]):∀{later:List RE},(∀e∈later,D e.i=true→e.δ=[])→
  (uo D s (later++re::earlier)).H=(canR s earlier).H
 |[],_=>by
  show(if D re.i=true then _ else uo D s earlier).H=_;rw[if_neg (by simp[hD])];clear hD
  induction earlier with
  |nil=>rfl
  |cons e m ih=>
   have ih:=ih fun e' he' =>he e' (List.mem_cons_of_mem _ he')
   show(if D e.i=true then((uo D s m).aps e.δ).put e.dst e.v else uo D s m).H=(((canR s m).aps e.δ).put e.dst e.v).H;cases hb:D e.i with
   |true=>
    rw[if_pos rfl,qpk,qpk];exact qw3 ih
   |false=>
    rw[if_neg (by simp),qpk,he e List.mem_cons_self hb];exact ih
 |e::later,hl=>by
  have ih:=q1t (s:=s) hD he (later:=later) fun e' he' =>hl e' (List.mem_cons_of_mem _ he')
  show(if D e.i=true then((uo D s (later++re::earlier)).aps e.δ).put e.dst e.v else uo D s (later++re::earlier)).H=_;cases hb:D e.i with
  |true=>
   rw[if_pos rfl,qpk,hl e List.mem_cons_self hb];exact ih
  |false=>
   rw[if_neg (by simp)];exact ih
structure Sim (Zt Zs : Nat → Prop) (s s' : TS) : Prop where
 len : s.H.length = s'.H.length
 H : ∀ t : Nat, ¬ Zt t → s.H[t]? = s'.H[t]?
 S : ∀ t, ¬ Zs t → bg s.S t = bg s'.S t
theorem Sim.ap{Zt Zs:Nat→Prop}{s s' :TS}(h:Sim Zt Zs s s')(x:St):Sim Zt Zs (s.ap x) (s'.ap x):=by
 cases x with
 |sb θ=>exact⟨by simp only[TS.ap,hAp,cm];exact h.len,fun t ht=>by simp only[TS.ap,hAp,gc,h.H t ht],fun t ht=>by simp only[TS.ap,sAp,fe,h.S t ht]⟩
 |set t' o=>exact⟨by simp only[TS.ap,hAp,List.length_set];exact h.len,fun t ht=>by simp only[TS.ap,hAp,List.getElem?_set,h.len,h.H t ht],h.S⟩
 |new t' o=>
  refine⟨?_,fun t ht=> ?_,h.S⟩
  ·simp only[TS.ap,hAp,fa,h.len];cases Nat.blt t' s'.H.length<;>simp[h.len]
  ·simp only[TS.ap,hAp,fa,h.len];cases Nat.blt t' s'.H.length with
   |true=>simp only[cond_true,List.getElem?_set,h.len,h.H t ht]
   |false=>simp only[cond_false,List.getElem?_append,h.len,h.H t ht]
theorem Sim.aps{Zt Zs:Nat→Prop}:∀{δ:List St} {s s' :TS},Sim Zt Zs s s' →Sim Zt Zs (s.aps δ) (s'.aps δ)
 |[],_,_,h=>h
 |x::δ,s,s',h=>Sim.aps (δ:=δ) (h.ap x)
theorem Sim.put{Zt Zs:Nat→Prop}{s s' :TS}(h:Sim Zt Zs s s')(d:Option Tmp)(v:TV):Sim Zt Zs (s.put d v) (s'.put d v):=by
 rw[gn,gn];exact⟨h.len,h.H,fun t ht=>by simp only[gz,h.S t ht]⟩
theorem Sim.canR{Zt Zs:Nat→Prop}{s s' :TS}(h:Sim Zt Zs s s'):∀(res:List RE),Sim Zt Zs (canR s res) (canR s' res)
 |[]=>h
 |e::res=>((Sim.canR h res).aps (δ:=e.δ)).put e.dst e.v
theorem Ext.canR{s s' :TS}(h:Ext s s'):∀(res:List RE),Ext (canR s res) (canR s' res)
 |[]=>h
 |e::res=>((Ext.canR h res).aps e.δ).put e.dst e.v
theorem q6i(ht:Tr X l bq rs τ S0 H0 recs)(D:Nat→Bool):Sim (fun t=>∃e∈recs,D e.i=false∧e.n≤t∧t<e.n+e.news.length) (fun t=>∃e∈recs,D e.i=false∧e.dst=some t) (c7 S0 H0 D recs) ⟨x7 S0 recs,qm H0 recs⟩:=by
 refine⟨qa9 D recs,fun t hz=>q32 ht fun e he h1 h2=> ?_,fun t hz=>qt2 fun e he h1=> ?_⟩
 ·cases hb:D e.i with
  |true=>rfl
  |false=>exact absurd ⟨e,he,hb,h1,h2⟩ hz
 ·cases hb:D e.i with
  |true=>rfl
  |false=>exact absurd ⟨e,he,hb,h1⟩ hz
end
section
variable {U : Nat → Prop} {w0 : World} {σ0 : Pl} {K : Nat → Bool} {P : Program} {R Rf : Type}
theorem jkp(H:List TOb)(n:Nat):vw (H++List.replicate n .gone)=vw H:=by
 funext T;have key:∀t:Nat,(H++List.replicate n TOb.gone)[t]? =H[t]? ∨(H[t]? =none∧(H++List.replicate n TOb.gone)[t]? =some .gone):=by
  intro t;rcases Nat.lt_or_ge t H.length with h1|h1
  ·exact .inl (List.getElem?_append_left h1)
  ·rw[List.getElem?_append_right h1,List.getElem?_eq_none h1,List.getElem?_replicate];split
   ·exact .inr ⟨rfl,rfl⟩
   ·exact .inl rfl
 cases T with
 |o t=>rcases key t with e|⟨e1,e2⟩<;>simp only[vw]<;>first|rw[e]|(rw[e1,e2];rfl)
 |r t i f=>rcases key t with e|⟨e1,e2⟩<;>simp only[vw]<;>first|rw[e]|(rw[e1,e2];rfl)
theorem qq7{δ δ' :List St}{v v' :TV}(h:rt δ' v' =some (δ,v)):δ' =δ∧v' =v:=by
 simp only[rt,Option.some.injEq,Prod.mk.injEq]at h;exact h
theorem jc5{X:Ctx Rf}(hX:CtxOK P X)(hmix:P.follows .mixedOrders=true)(hK:∀t,bk X.kp t=false→K t=false){id:Nat}{l:List Oper}{bq rs τ:List Nat}{s:TS}{k:TS→Option R}{r:R}(h:jhu X l bq rs τ s k=some r)
  {Q:Exit→Act→World→Prop} (hQ:∀s' a' w' σ',df U w0 σ0 K X.N s' a' w' σ' →k s' =some r→Q .normal a' w') {a:Act} {w:World} {σ:Pl} (hr:df U w0 σ0 K X.N s a w σ):(Code.region id l.toArray true).wp P Q a w:=by
 unfold jhu at h;obtain⟨hdr,h⟩:=ah h;have hF:=facts hdr;obtain⟨recs,S',htr,hcov,hS',h⟩:=jee (S0:=s.S) (H0:=s.H) l 0 s.S [] rfl trivial (fun e he=>by simp at he) (fun j hj=>by omega) (fun _=>rfl) h;obtain⟨res,sf,htrR,hcovR,hsf,hk⟩:=jef (s0:=⟨x7 s.S recs,qm s.H recs⟩) l 0 ⟨S',qm s.H recs⟩ [] rfl trivial (fun e he=>by simp at he) (fun j hj=>by omega) ⟨rfl,hS'⟩ h;clear h;have hback:∀i k,k∈qn2 l i→k<i:=by
  intro i k hk;cases ho:l[i]? with
  |none=>simp[qn2,ho]at hk
  |some o=>
   rw[qq4 ho]at hk;have:=(qt9 hF.tb i o ho).2 k hk;omega
 refine q9n hmix hback (fun D a w=>∃σ,df U w0 σ0 K X.N (uo D (c7 s.S s.H D recs) res) a w σ) ?_ ?_ ?_
 ·
  intro D i o a w hcl hbey ho hDi hon ⟨σ,hr⟩ KK hKK;have hW:=fun j hj=>q2c hF.tb hcl i o ho hon j hj
  have hil:i<l.length:=(List.getElem?_eq_some_iff.1 ho).1;cases hm:pg i rs with
  |false=>
   obtain⟨e,hem,rfl⟩:=hcov i hil hil hm;obtain⟨later,earlier,o',hrec,hte,he,hlt⟩:=htr.split e hem;have hoo:o' =o:=by have:=he.at_;rw[ho]at this;injection this with this;exact this.symm
   subst hoo;have hRes:∀re∈res,D re.i=true→p3 e re.δ=true∧∀t,re.dst=some t→e.dst≠some t∧t∉usN l o' :=by
    intro re hre hD;obtain⟨o2,h1,h2,h3,h4⟩:=htrR.at_ re hre;have hni:inW bq e.i re.i=false:=by
     cases hb:inW bq e.i re.i with
     |false=>rfl
     |true=>rw[qqu hF.tb hcl h1 hD hb]at hDi;cases hDi
    refine⟨?_,fun t ht=> ?_⟩
    ·rcases q07 h4 e hem with hb|hb
     ·rw[hni]at hb;cases hb
     ·exact hb
    ·rw[h2]at ht;rw[he.dst];rcases Nat.lt_trichotomy e.i re.i with hlt' |heq|hgt
     ·have hc:=qn (hF.aa e.i re.i o' o2 hlt' ho h1 hm hni);exact⟨fun e1=>(hc.1 t e1).2 ht,hc.2 t ht⟩
     ·rw[heq]at hm;rw[hm]at h3;cases h3
     ·have hc:=qn (hF.ra re.i e.i o2 o' hgt h1 ho h3 hm);exact⟨(hc.1 t ht).2,(hc.1 t ht).1⟩
   have hnew:Ext (uo (l0 D e.i) (c7 s.S s.H (l0 D e.i) recs) res) (apE e (uo D (c7 s.S s.H D recs) res))∧e.n+e.news.length≤(uo D (c7 s.S s.H D recs) res).H.length:=by
    refine q6j (by rw[qa9];exact(Tr.bnd htr e hem).2) (q6h htr e hem hDi fun e' he' hlt' hD' d hd=> ?_) (fun re hre=> ?_) (fun re hre hD=>⟨(hRes re hre hD).1,fun t ht=>((hRes re hre hD).2 t ht).1⟩)
    ·obtain⟨o2,h1,h2,h3⟩:=htr.at_ e' he';have hni:inW bq e.i e'.i=false:=by
      cases hb:inW bq e.i e'.i with
      |false=>rfl
      |true=>rw[qqu hF.tb hcl h1 hD' hb]at hDi;cases hDi
     have hc:=qn (hF.aa e.i e'.i o' o2 hlt' ho h1 hm hni);rw[he.dst];exact fun e1=>(hc.1 d e1).2 (by rw[←h2];exact hd)
    ·obtain⟨o2,h1,h2,h3,h4⟩:=htrR.at_ re hre;exact qce fun e1=>by rw[e1,hm]at h3;cases h3
   have hgo:∀a' w' σ',df U w0 σ0 K X.N (apE e (uo D (c7 s.S s.H D recs) res)) a' w' σ' →KK a' w' :=fun a' w' σ' h' =>hKK a' w' ⟨σ',h'.ext hnew.1.symm⟩
   rcases he.run with⟨hw,hxs,hHv,δ,hst,hobs⟩|⟨hw,hv,hnews,hHv,hxs⟩
   ·have hseen:=qt3 he.wk (fun _=>hxs) (jfb hF hcl hrec htr hte he hlt hDi hW hw hHv) (D:=D) (res:=res) (fun re hre hD=>⟨(hRes re hre hD).1,fun t ht=>((hRes re hre hD).2 t ht).2⟩);rw[te hr hseen.gd,if_pos rfl];have hdoes:m4 P U w0 σ0 K X.N o' (uo D (c7 s.S s.H D recs) res) a w rt (δ,e.v):=by
     cases hld:qi o'.op with
     |true=>
      refine q8o hX hr (q8c hr.hr.sees fun t ob hob=> ?_) hld (fun x hx=>Wk.vr _ _ _ (hseen.xs rfl x hx) (hr.ev x)) hst;rcases hseen.hv t ob hob with h1|h1|⟨_,h1⟩
      ·exact .inl h1
      ·exact .inr (.inl h1)
      ·exact .inr (.inr h1)
     |false=>
      have hl:HLe (fun t=>e.n≤t∧t<e.n+e.news.length) e.Hv (uo D (c7 s.S s.H D recs) res).H:=by
       refine⟨fun t ob hob=> ?_,fun t _ hf=> .inr (hseen.fr t hf.1 hf.2),?_⟩
       ·rcases hseen.hv t ob hob with h1|h1|⟨h1,_⟩
        ·exact .inl h1
        ·exact .inr h1
        ·rw[hld]at h1;cases h1
       ·have:=hHv.len;rw[qo1,←he.n]at this;omega
      exact qq9 hX hr hl hK (fun x hx=>Wk.vr _ _ _ (hseen.xs rfl x hx) (hr.ev x)) (fun δ' v' hrt t o hmem=>qst hobs t o (by rw[←(qq7 hrt).1];exact hmem)) hst
    obtain⟨δ',v',hrt,hdo⟩:=hdoes;obtain⟨rfl,rfl⟩:=qq7 hrt;refine hdo Q KK fun a' w' σ' h' =>hgo a' w' σ' ?_
    rw[qzw _ hobs hnew.2,gn,←he.dst]at h';exact h'
   ·have hseen:=qt3 (b:=false) he.wk (fun hb=>by cases hb) (jfb hF hcl hrec htr hte he hlt hDi hW hw ⟨fun t ob hob=>by rw[hHv]at hob;simp at hob,by rw[hHv];exact Nat.zero_le _⟩) (D:=D) (res:=res) (fun re hre hD=>⟨(hRes re hre hD).1,fun t ht=>((hRes re hre hD).2 t ht).2⟩);rw[te hr hseen.gd,if_neg (by simp)];refine hgo _ _ σ ?_;have:=hr.put o'.dst (A:= .undef) (v:=undef) (by simp[VR]);rw[gn]at this;unfold apE;rw[hnews,hv,he.dst];exact this
  |true=>
   obtain⟨re,hrem,rfl⟩:=hcovR i hil hil hm;obtain⟨later,earlier,o',hres,he,hlt⟩:=htrR.split re hrem;have hoo:o' =o:=by have:=he.at_;rw[ho]at this;injection this with this;exact this.symm
   subst hoo;have hnW:∀re' ∈later,D re'.i=true→inW bq re.i re'.i=false:=by
    intro re' hre' hb;obtain⟨o2,h1,_⟩:=htrR.at_ re' (by rw[hres];exact List.mem_append_left _ hre');cases hi:inW bq re.i re'.i with
    |false=>rfl
    |true=>rw[qqu hF.tb hcl h1 hb hi]at hDi;cases hDi
   have hlater:∀re' ∈later,D re'.i=true→Ind re re' ∧(∀d,re'.dst=some d→d∉usN l o')∧(x9 o'.op=false→re'.δ=[]):=by
    intro re' hre' hb;have hm' :re' ∈res:=by rw[hres];exact List.mem_append_left _ hre'
    obtain⟨o2,h1,h2,_⟩:=htrR.at_ re' hm';obtain⟨i1,i2,i3,_⟩:=q98 hF htrR hrem hm' (hlt re' hre') (hnW re' hre' hb) ho h1;exact⟨i1,fun d hd=>(qn i2).2 d (by rw[←h2];exact hd),i3⟩
   have hearl:∀re' ∈earlier,D re'.i=false→Ind re' re∧(∀d,re'.dst=some d→d∉usN l o')∧(x9 o'.op=false→re'.δ=[]):=by
    intro re' hre' hb;have hm' :re' ∈res:=by rw[hres];exact List.mem_append_right _ (List.mem_cons_of_mem _ hre')
    obtain⟨o2,h1,h2,_⟩:=htrR.at_ re' hm';have hn:inW bq re'.i re.i=false:=by
     cases hi:inW bq re'.i re.i with
     |false=>rfl
     |true=>rw[hW _ hi]at hb;cases hb
    obtain⟨i1,i2,_,i4⟩:=q98 hF htrR hm' hrem (he.lt re' hre') hn h1 ho;exact⟨i1,fun d hd=>((qn i2).1 d (by rw[←h2];exact hd)).1,i4⟩
   have hst1:Ext (uo (l0 D re.i) (c7 s.S s.H (l0 D re.i) recs) res) (((uo D (c7 s.S s.H D recs) res).aps re.δ).put re.dst re.v):=by
    have e1:c7 s.S s.H (l0 D re.i) recs=c7 s.S s.H D recs:=qoy fun e he' =>by
     obtain⟨o2,h1,h2,h3⟩:=htr.at_ e he';exact qce fun e2=>by rw[e2,hm]at h3;cases h3
    rw[e1,hres];exact q6l hDi (fun e hem=>by have:=he.lt e hem;omega) (fun e hem=>by have:=hlt e hem;omega) fun e hem hb=>(hlater e hem hb).1
   have hsim:=(q6i htr D).canR earlier;have hslot:∀t∈usN l o',bg (uo D (c7 s.S s.H D recs) res).S t=bg (canR ⟨x7 s.S recs,qm s.H recs⟩ earlier).S t:=by
    intro t htu;have h0:bg (uo D (c7 s.S s.H D recs) res).S t=bg (canR (c7 s.S s.H D recs) earlier).S t:=by
     rw[hres];refine qwr hDi (fun e hem hb=> ?_) fun e hem hb=> ?_
     ·obtain⟨i1,i2,_⟩:=hearl e hem hb;exact⟨i1.n1,fun e1=>i2 t e1 htu⟩
     ·obtain⟨i1,i2,_⟩:=hlater e hem hb;exact⟨i1.n2,fun e1=>i2 t e1 htu⟩
    refine h0.trans (hsim.S t ?_);rintro⟨e,hem,hDe,hde⟩;obtain⟨o2,h1,h2,h3⟩:=htr.at_ e hem;rcases Nat.lt_trichotomy e.i re.i with hlt' |heq|hgt
    ·cases hb:inW bq e.i re.i with
     |true=>rw[hW _ hb]at hDe;cases hDe
     |false=>exact((qn (hF.aa e.i re.i o2 o' hlt' h1 ho h3 hb)).1 t (by rw[←h2];exact hde)).1 htu
    ·rw[heq,hm]at h3;cases h3
    ·exact(qn (hF.ra re.i e.i o' o2 hgt ho h1 hm h3)).2 t (by rw[←h2];exact hde) htu
   rcases he.run with⟨hw,hst,hok⟩|⟨hw,hδ,hv⟩
   ·rw[te hr (hw.slots fun t ht=>(hslot t ht).symm),if_pos rfl];have hxs:∀x∈o'.op.operands,VR (gr U (vw (uo D (c7 s.S s.H D recs) res).H) w σ) (qfg (zR bq re.i recs) (evT X.N (canR ⟨x7 s.S recs,qm s.H recs⟩ earlier).S x)) (a.eval x):=by
     intro x hx;refine Wk.vr _ _ _ ?_ (hr.ev x);cases x with
     |tmp t=>
      simp only[evT,rd,hslot t (q4b hx)];exact xj _ _
     |const v=>exact xj _ _
     |func f=>exact xj _ _
     |global g=>exact xj _ _
    have hdoes:m4 P U w0 σ0 K X.N o' (uo D (c7 s.S s.H D recs) res) a w rt (re.δ,re.v):=by
     cases hli:x9 o'.op with
     |true=>
      obtain⟨hδ,hst'⟩:=qv3 hli hst;have hl:HLe (fun _=>False) [] (uo D (c7 s.S s.H D recs) res).H:=⟨fun t ob hob=>by simp at hob,fun t _ hf=>hf.elim,Nat.zero_le _⟩;exact qq9 hX hr hl hK hxs (fun δ' v' hrt t o hmem=>by rw[(qq7 hrt).1,hδ]at hmem;simp at hmem) (hst' [])
     |false=>
      have hH:(uo D (c7 s.S s.H D recs) res).H=(canR (c7 s.S s.H D recs) earlier).H:=by
       rw[hres];exact q1t hDi (fun e hem hb=>(hearl e hem hb).2.2 hli) fun e hem hb=>(hlater e hem hb).2.2 hli
      have hl:HLe (fun _=>True) (qjw (zR bq re.i recs) (canR ⟨x7 s.S recs,qm s.H recs⟩ earlier).H) (uo D (c7 s.S s.H D recs) res).H:=by
       rw[hH];refine⟨fun t ob hob=> ?_,fun t ht _=> .inl (List.getElem?_eq_none (by rw[hsim.len];rw[qo1]at ht;exact ht)),by rw[qo1,hsim.len];exact Nat.le_refl _⟩;rcases q11 hob with hg|⟨h1,h2⟩
       ·exact .inl hg
       ·refine .inr ?_;rw[hsim.H t,h1];rintro⟨e,hem,hDe,h3,h4⟩;rw[hW _ (qzh h2 e hem h3 h4)]at hDe;cases hDe
      exact qq9 hX hr hl hK hxs (fun _ _ _ _ _ _=>trivial) hst
    obtain⟨δ',v',hrt,hdo⟩:=hdoes;obtain⟨rfl,rfl⟩:=qq7 hrt;refine hdo Q KK fun a' w' σ' h' =>hKK a' w' ⟨σ',?_⟩
    rw[←he.dst]at h';exact h'.ext hst1.symm
   ·rw[te hr (hw.slots fun t ht=>(hslot t ht).symm),if_neg (by simp)];refine hKK _ _ ⟨σ,?_⟩;have h' :=hr.put o'.dst (A:= .undef) (v:=undef) (by simp[VR]);rw[hδ,hv,he.dst]at hst1;exact h'.ext hst1.symm
 ·
  intro D a w hall hbey ⟨σ,hr⟩;have e1:Ext (c7 s.S s.H D recs) ⟨x7 s.S recs,qm s.H recs⟩:=by
   have hs:=q6i htr D;have hno:∀e∈recs,D e.i=true:=fun e he=>by
    obtain⟨o2,h1,_⟩:=htr.at_ e he;exact hall _ (List.getElem?_eq_some_iff.1 h1).1
   refine⟨List.ext_getElem? fun t=>hs.H t ?_,fun t=>hs.S t ?_⟩
   ·rintro⟨e,he,hb,_⟩;rw[hno e he]at hb;cases hb
   ·rintro⟨e,he,hb,_⟩;rw[hno e he]at hb;cases hb
  have e2:uo D (c7 s.S s.H D recs) res=canR (c7 s.S s.H D recs) res:=q6k fun re hre=>by
   obtain⟨o2,h1,_⟩:=htrR.at_ re hre;exact hall _ (List.getElem?_eq_some_iff.1 h1).1
  rw[e2]at hr;exact hQ sf a w σ ((hr.ext (e1.canR res)).ext hsf.symm) hk
 ·
  have e2:uo (fun _=>false) (c7 s.S s.H (fun _=>false) recs) res=c7 s.S s.H (fun _=>false) recs:=by
   have:=qwq (D:=fun _=>false) (s:=c7 s.S s.H (fun _=>false) recs) (m:=[]) (later:=res) fun _ _=>rfl
   rw[List.append_nil]at this;exact this
  refine⟨σ,?_⟩;rw[e2];have hpad:∀m:List En,(c7 s.S s.H (fun _=>false) m).S=s.S∧vw (c7 s.S s.H (fun _=>false) m).H=vw s.H:=by
   intro m
   induction m with
   |nil=>exact⟨rfl,rfl⟩
   |cons e m ih=>
    rw[qm0,if_neg (by simp)];exact⟨ih.1,(jkp _ _).trans ih.2⟩
  obtain⟨h1,h2⟩:=hpad recs;have hr' :=hr.heapEq (w' :={w with drawn:=w.drawn+1}) rfl rfl rfl rfl;show ARel _ _ _ _ _ _ _ _ _ _;rw[h1,h2];exact hr'
end
end Go.K
namespace Go.K
open Go.M Go.RowKit
inductive Ann where
 | z
 | s (n : Nat)
 | d (bq rs τ : List Nat)
 | one (a : Ann)
 | two (a b : Ann)
 | u (n : Nat) (a : Ann)
def Ann.l:Ann→Ann
 | .two a _=>a
 | .one a=>a
 |_=> .z
def Ann.r:Ann→Ann
 | .two _ b=>b
 |_=> .z
def Ann.sum:Ann→Option Nat
 | .s n=>some n
 |_=>none
def Ann.unr:Ann→Option (Nat×Ann)
 | .u n a=>some (n,a)
 |_=>none
def q36:Code→List Bool→Code
 |c,[]=>c
 | .seq x _,false::p=>q36 x p
 | .seq _ y,true::p=>q36 y p
 | .cond _ x _,false::p=>q36 x p
 | .cond _ _ y,true::p=>q36 y p
 | .block _ x,_::p=>q36 x p
 | .loop x,_::p=>q36 x p
 |c,_=>c
def qxc(f:Func):Code:=match f.body with|some c=>c|none=> .skip
section
variable {R Rf : Type}
def jkc(X:Ctx Rf)(l:List Oper)(draw:Bool)(a:Ann)(s:TS)(k:TS→Option R):Option R:=
 match draw with
 |false=>qy7 X l l s k
 |true=>match a with| .d bq rs τ=>jhu X l bq rs τ s k|_=>none
def jen(f:TS→(TS→Option R)→Option R):Nat→TS→Option R
 |0,_=>none
 |n+1,s=>f s (jen f n)
def den(X:Ctx Rf):Code→Ann→TS→(TS→Option R)→(Nat→TS→Option R)→(Rf→Option R)→Option R
 |c,a,s,kn,ke,kr=>
  match a.sum with
  |some n=>
   match X.Λ n with
   |some σ=>match σ.dec s with|some x=>bnd (σ.m x) (fun o=>σ.cont x o kn ke kr)|none=>none
   |none=>none
  |none=>
   match c with
   | .skip=>kn s
   | .region _ ops d=>jkc X ops.toList d a s kn
   | .seq x y=>den X x a.l s (fun s' =>den X y a.r s' kn ke kr) ke kr
   | .cond c x y=>match evT X.N s.S c with| .bool g=>bif g then den X x a.l s kn ke kr else den X y a.r s kn ke kr|_=>none
   | .block id x=>den X x a.l s kn (fun id' s' =>bif Nat.beq id' id then kn s' else ke id' s') kr
   | .loop x=>match a.unr with|some (n,b)=>jen (fun s k=>den X x b s k ke kr) n s|none=>none
   | .exit id=>ke id s
   | .ret=>match X.res s with|some r=>kr r|none=>none
   |_=>none
end
section
variable {U : Nat → Prop} {w0 : World} {σ0 : Pl} {K : Nat → Bool} {N : Nat} {P : Program} {R Rf : Type}
def CW(P:Program)(U:Nat→Prop)(w0:World)(σ0:Pl)(K:Nat→Bool)(N:Nat)(c:Code)(Q:Exit→TS→Prop)(s:TS):Prop:=
 ∀a w σ,df U w0 σ0 K N s a w σ→c.wp P (fun e a' w' =>∃s' σ',df U w0 σ0 K N s' a' w' σ' ∧Q e s') a w
def q4g(X:Ctx Rf)(kn:TS→Option R)(ke:Nat→TS→Option R)(kr:Rf→Option R)(r:R):Exit→TS→Prop
 | .normal,s' =>kn s' =some r
 | .exit id,s' =>ke id s' =some r
 | .ret,s' =>∃x,X.res s' =some x∧kr x=some r
 |_,_=>False
def qve(X:Ctx Rf)(K:Nat→Bool):Prop:=∀t,bk X.kp t=false→K t=false
def bh(P:Program)(X:Ctx Rf)(n:Nat)(c:Code):Prop:=
 ∀σ,X.Λ n=some σ→∀(U:Nat→Prop) (w0:World) (σ0:Pl) (K:Nat→Bool),qve X K→∀(R:Type) (s:TS) (x:σ.A) (o:σ.O) (kn:TS→Option R) (ke:Nat→TS→Option R) (kr:Rf→Option R) (r:R),
  σ.dec s=some x→σ.m x=some o→σ.cont x o kn ke kr=some r→CW P U w0 σ0 K X.N c (q4g X kn ke kr r) s
def qd:Code→Ann→List (Nat×Code)
 |c,a=>
  match a.sum with
  |some n=>[(n,c)]
  |none=>
   match c with
   | .seq x y=>qd x a.l++qd y a.r
   | .cond _ x y=>qd x a.l++qd y a.r
   | .block _ x=>qd x a.l
   | .loop x=>match a.unr with|some (_,b)=>qd x b|none=>[]
   |_=>[]
theorem qym{X:Ctx Rf}(hX:CtxOK P X)(hK:qve X K){o:Oper}{s:TS}{k:TS→Option R}{r:R}(h:opT X o s k=some r){a:Act}{w:World}{σ:Pl}(hr:df U w0 σ0 K X.N s a w σ){Q:Exit→Act→World→Prop}{KK:Act→World→Prop}
  (hKK:∀s' a' w' σ',df U w0 σ0 K X.N s' a' w' σ' →k s' =some r→KK a' w'):o.wp P a w KK Q:=by
 unfold opT at h;obtain⟨δ,v,hk,hdo⟩:=qq9 (F:=fun _=>True) hX hr (HLe.refl s.H) hK (fun x _=>hr.ev x) (fun _ _ _ _ _ _=>trivial) h;exact hdo Q KK fun a' w' σ' h' =>hKK _ a' w' σ' h' hk
theorem q58{X:Ctx Rf}(hX:CtxOK P X)(hK:qve X K){all:List Oper}{k:TS→Option R}{r:R}{Q:Exit→Act→World→Prop}(hQ:∀s' a' w' σ',df U w0 σ0 K X.N s' a' w' σ' →k s' =some r→Q .normal a' w'):
  ∀(l:List Oper) (s:TS) (a:Act) (w:World) (σ:Pl),df U w0 σ0 K X.N s a w σ→qy7 X all l s k=some r→wpList P all.toArray Q l a w:=by
 intro l
 induction l with
 |nil=>intro s a w σ hr h;exact hQ s a w σ hr h
 |cons o rest ih=>
  intro s a w σ hr h;unfold qy7 jby at h;split at h
  ·rename_i hg;exact wpList_plain hg fun K' hK' =>qym hX hK h hr fun s' a' w' σ' h' hk=>hK' _ _ (ih s' a' w' σ' h' hk)
  ·rename_i g hg;obtain⟨S1,hext,hcase⟩:=qef hg h;have hr1:df U w0 σ0 K X.N ⟨S1,s.H⟩ a w σ:=df.ext (s:=s) (s' :=⟨S1,s.H⟩) ⟨rfl,fun t=>(hext t).symm⟩ hr;refine wpList_step fun K' hK' => ?_
   rcases hcase with⟨hw,h1⟩|⟨hw,h1⟩
   ·rw[te hr hw];simp only[if_true];exact qym hX hK h1 hr1 fun s' a' w' σ' h' hk=>hK' _ _ (ih s' a' w' σ' h' hk)
   ·rw[te hr hw];simp only[Bool.false_eq_true,if_false];exact hK' _ _ (ih _ _ _ σ (hr1.put o.dst (A:= .undef) (v:=undef) (by simp[VR])) h1)
theorem jd8{X:Ctx Rf}(hX:CtxOK P X)(hmix:P.follows .mixedOrders=true)(hK:qve X K){id:Nat}{l:List Oper}{d:Bool}{an:Ann}{s:TS}{k:TS→Option R}{r:R}(h:jkc X l d an s k=some r){Q:Exit→TS→Prop}(hQ:∀s',k s' =some r→Q .normal s'):
  CW P U w0 σ0 K X.N (.region id l.toArray d) Q s:=by
 intro a w σ hr;unfold jkc at h;split at h
 ·refine wp_region_lit ?_;exact q58 hX hK (fun s' a' w' σ' h' hk=>⟨s',σ',h',hQ s' hk⟩) l s a w σ hr h
 ·split at h
  ·exact jc5 hX hmix hK h (fun s' a' w' σ' h' hk=>⟨s',σ',h',hQ s' hk⟩) hr
  ·cases h
theorem CW.mono{c:Code}{Q Q' :Exit→TS→Prop}{s:TS}(hq:∀e s,Q e s→Q' e s)(h:CW P U w0 σ0 K N c Q s):CW P U w0 σ0 K N c Q' s:=
 fun a w σ hr=>Code.wp_mono (fun _ _ _ ⟨s',σ',h1,h2⟩=>⟨s',σ',h1,hq _ _ h2⟩) (h a w σ hr)
theorem CW.loop{ι:Type}{body:Code}{Q:Exit→TS→Prop}(I:ι→TS)(ok:ι→Prop)(μ:ι→Nat)
  (round:∀i,ok i→∀a w σ,df U w0 σ0 K N (I i) a w σ→body.wp P (fun e a' w' =>match e with| .normal=>∃j σ',ok j∧μ j<μ i∧df U w0 σ0 K N (I j) a' w' σ' |e=>∃s' σ',df U w0 σ0 K N s' a' w' σ' ∧Q e s') a w):
  ∀i0,ok i0→CW P U w0 σ0 K N (.loop body) Q (I i0):=by
 intro i0 h0 a w σ hr
 suffices H:∀n i a w σ,ok i→μ i=n→df U w0 σ0 K N (I i) a w σ→∀b k cs,∃e a' w',(∃s' σ',df U w0 σ0 K N s' a' w' σ' ∧Q e s')∧Arrives P (lone (b.at a (.code body:: .inLoop body::k)) cs w) b k cs e a' w' by
  intro b k cs;obtain⟨e,a',w',hq,harr⟩:=H (μ i0) i0 a w σ h0 rfl hr b k cs;exact⟨e,a',w',hq, .of_steps (.one step_loop) harr⟩
 intro n
 induction n using Nat.strongRecOn with
 |_ n ih=>
  intro i a w σ hok hn hrel b k cs;obtain⟨e,a₁,w₁,hq,harr⟩:=round i hok a w σ hrel b (.inLoop body::k) cs;cases e with
  |normal=>
   obtain⟨j,σ2,hj,hlt,hr2⟩:=hq;obtain⟨e,a',w',hq',harr'⟩:=ih (μ j) (hn▸hlt) j a₁ w₁ σ2 hj rfl hr2 b k cs;exact⟨e,a',w',hq', .of_steps (Steps.trans harr (.one step_inLoop)) harr'⟩
  |exit id=>exact⟨_,a₁,w₁,hq,fun k' hk=>harr k' (by simpa[exitTo]using hk)⟩
  |goto l=>exact⟨_,a₁,w₁,hq,fun k' hk=>harr k' (by simpa[gotoIn]using hk)⟩
  |ret=>exact⟨_,a₁,w₁,hq,harr⟩
  |panic chain=>exact⟨_,a₁,w₁,hq,harr⟩
  |outgrown=>exact⟨_,a₁,w₁,hq,harr⟩
theorem qk9{α β:Type}{m:Option α}{f:α→Option β}{r:β}(h:bnd m f=some r):∃x,m=some x∧f x=some r:=by
 cases m with
 |none=>cases h
 |some x=>exact⟨x,rfl,h⟩
theorem qxj{X:Ctx Rf}(hX:CtxOK P X)(hmix:P.follows .mixedOrders=true)(hK:qve X K){r:R}:∀(c:Code) (a:Ann) (s:TS) (kn:TS→Option R) (ke:Nat→TS→Option R) (kr:Rf→Option R),
  (∀p∈qd c a,bh P X p.1 p.2)→den X c a s kn ke kr=some r→CW P U w0 σ0 K X.N c (q4g X kn ke kr r) s:=by
 intro c
 induction c with
 |skip=>
  intro a s kn ke kr hs h;unfold den at h;split at h
  ·rename_i n hn;exact summ hs hn h
  ·exact fun a w σ hr=>wp_skip ⟨s,σ,hr,h⟩
 |region id ops d=>
  intro a s kn ke kr hs h;unfold den at h;split at h
  ·rename_i n hn;exact summ hs hn h
  ·have:=jd8 (id:=id) (U:=U) (w0:=w0) (σ0:=σ0) hX hmix hK h (Q:=q4g X kn ke kr r) (fun s' hk=>hk);simpa using this
 |seq x y ihx ihy=>
  intro a s kn ke kr hs h;unfold den at h;split at h
  ·rename_i n hn;exact summ hs hn h
  ·rename_i hn;have hsum:qd (.seq x y) a=qd x a.l++qd y a.r:=by conv=>lhs;unfold qd;simp only[hn]
   rw[hsum]at hs;have hx:=ihx a.l s _ ke kr (fun p hp=>hs p (List.mem_append_left _ hp)) h;intro a1 w1 σ1 hr;refine wp_seq (Code.wp_mono ?_ (hx a1 w1 σ1 hr));rintro e a' w' ⟨s',σ',h1,h2⟩;cases e with
   |normal=>exact ihy a.r s' kn ke kr (fun p hp=>hs p (List.mem_append_right _ hp)) h2 a' w' σ' h1
   |exit id=>exact⟨s',σ',h1,h2⟩
   |ret=>exact⟨s',σ',h1,h2⟩
   |_=>exact h2.elim
 |cond c x y ihx ihy=>
  intro a s kn ke kr hs h;unfold den at h;split at h
  ·rename_i n hn;exact summ hs hn h
  ·rename_i hn;have hsum:qd (.cond c x y) a=qd x a.l++qd y a.r:=by conv=>lhs;unfold qd;simp only[hn]
   rw[hsum]at hs;simp only[]at h;split at h
   ·rename_i g hg;intro a1 w1 σ1 hr;have hv:=hr.ev c;rw[hg]at hv;simp only[VR]at hv;refine wp_cond_split hv (fun hb=> ?_) (fun hb=> ?_)
    ·subst hb;exact ihx a.l s kn ke kr (fun p hp=>hs p (List.mem_append_left _ hp)) h a1 w1 σ1 hr
    ·subst hb;exact ihy a.r s kn ke kr (fun p hp=>hs p (List.mem_append_right _ hp)) h a1 w1 σ1 hr
   ·cases h
 |block id x ih=>
  intro a s kn ke kr hs h;unfold den at h;split at h
  ·rename_i n hn;exact summ hs hn h
  ·rename_i hn;have hsum:qd (.block id x) a=qd x a.l:=by conv=>lhs;unfold qd;simp only[hn]
   rw[hsum]at hs;have hx:=ih a.l s _ _ kr hs h;intro a1 w1 σ1 hr;refine wp_block (Code.wp_mono ?_ (hx a1 w1 σ1 hr));rintro e a' w' ⟨s',σ',h1,hp⟩;cases e with
   |normal=>exact⟨s',σ',h1,hp⟩
   |exit id' =>
    have hk:(bif Nat.beq id' id then kn s' else ke id' s')=some r:=hp;simp only[Exit.inBlock];by_cases he:id' =id
    ·subst he;rw[if_pos rfl];simp only[Nat.beq_refl,cond_true]at hk;exact⟨s',σ',h1,hk⟩
    ·rw[if_neg he];rw[qbc he]at hk;exact⟨s',σ',h1,hk⟩
   |ret=>exact⟨s',σ',h1,hp⟩
   |_=>exact hp.elim
 |exit id=>
  intro a s kn ke kr hs h;unfold den at h;split at h
  ·rename_i n hn;exact summ hs hn h
  ·exact fun a w σ hr=>wp_exit ⟨s,σ,hr,h⟩
 |ret=>
  intro a s kn ke kr hs h;unfold den at h;split at h
  ·rename_i n hn;exact summ hs hn h
  ·simp only[]at h;split at h
   ·rename_i x hx;exact fun a w σ hr=>wp_ret ⟨s,σ,hr,x,hx,h⟩
   ·cases h
 |loop x ih=>
  intro a s kn ke kr hs h;unfold den at h;split at h
  ·rename_i n hn;exact summ hs hn h
  ·rename_i hn;cases hu:a.unr with
   |none=>rw[hu]at h;cases h
   |some p=>
    obtain⟨n,b⟩:=p;rw[hu]at h;have hsum:qd (.loop x) a=qd x b:=by conv=>lhs;unfold qd;simp only[hn,hu]
    rw[hsum]at hs;refine CW.loop (ι:=Nat×TS) (fun p=>p.2) (fun p=>jen (fun s k=>den X x b s k ke kr) p.1 p.2=some r) (fun p=>p.1) ?_ (n,s) h;rintro⟨m,s1⟩ hm a1 w1 σ1 hr;cases m with
    |zero=>cases hm
    |succ m=>
     have hx:=ih b s1 (jen (fun s k=>den X x b s k ke kr) m) ke kr hs hm a1 w1 σ1 hr;refine Code.wp_mono ?_ hx;rintro e a' w' ⟨s',σ',h1,h2⟩;cases e with
     |normal=>exact⟨(m,s'),σ',h2,Nat.lt_succ_self m,h1⟩
     |exit id=>exact⟨s',σ',h1,h2⟩
     |ret=>exact⟨s',σ',h1,h2⟩
     |_=>exact h2.elim
 |_=>
  intro a s kn ke kr hs h;unfold den at h;split at h
  ·rename_i n hn;exact summ hs hn h
  ·cases h
 where
 summ {c:Code} {a:Ann} {s:TS} {kn:TS→Option R} {ke:Nat→TS→Option R} {kr:Rf→Option R} {n:Nat} (hs:∀p∈qd c a,bh P X p.1 p.2) (hn:a.sum=some n)
   (h:(match X.Λ n with|some σ=>(match σ.dec s with|some x=>bnd (σ.m x) (fun o=>σ.cont x o kn ke kr)|none=>none)|none=>none)=some r):CW P U w0 σ0 K X.N c (q4g X kn ke kr r) s:=by
  have hm:(n,c)∈qd c a:=by
   unfold qd;simp[hn]
  split at h
  ·rename_i σ hσ;split at h
   ·rename_i x hx;obtain⟨o,ho,hc⟩:=qk9 h;exact hs (n,c) hm σ hσ U w0 σ0 K hK R s x o kn ke kr r hx ho hc
   ·cases h
  ·cases h
end
end Go.K
namespace Go.K
open Go.M Go.RowKit
mutual
inductive Sh where
 | d (fr : Bool) (t : Ty)
 | rp (fr : Bool) (t : Ty)
 | own (i : Nat)
 | kid (i f : Nat)
 | ptr (i : Nat)
 | mp (i : Nat)
 | dm (fr : Bool) (kt vt : Ty)
 | it
 | e
 | fn (f : FuncId) (l : ShL)
 | agg (l : ShL)
 | nl (b : Bool) (s : Sh)
inductive ShL where
 | nil
 | cons (s : Sh) (l : ShL)
end
inductive Hs where
 | arr (ty : TypeId) (md : Md) (its : List TypeId) (t : Ty)
 | cs (ty : TypeId) (sz n : Nat) (l : ShL)
 | mp (kt vt : Ty)
 | mo (kt u : Ty) (ety : TypeId)
mutual
def Sh.den:Sh→Type
 | .d _ t=>t.den
 | .rp _ t=>t.den
 | .own _=>Unit
 | .kid _ _=>Nat
 | .ptr _=>Unit
 | .mp _=>Unit
 | .dm _ kt vt=>List (kt.den×vt.den)
 | .it=>Nat
 | .e=>Unit
 | .fn _ l=>l.den
 | .agg l=>l.den
 | .nl _ s=>s.den
def ShL.den:ShL→Type
 | .nil=>Unit
 | .cons s l=>s.den×l.den
end
def Hs.den:Hs→Type
 | .arr _ _ _ t=>List t.den
 | .cs _ _ _ l=>l.den
 | .mp kt vt=>List (kt.den×vt.den)
 | .mo kt u _=>List (kt.den×List u.den)
def qty:List (Nat×Sh)→Type
 |[]=>Unit
 |p::l=>p.2.den×qty l
def u4:List Hs→Type
 |[]=>Unit
 |p::l=>p.den×u4 l
def qvb(fr:Bool):(t:Ty)→t.den→TV
 | .int k,n=> .int k n
 | .bool,b=> .bool b
 | .str,s=> .val (.string s)
 | .slice t,xs=> .sl fr t xs
 | .struct l,x=> .agg (l.cells fr x)
mutual
def Sh.enc:(s:Sh)→s.den→TV
 | .d fr t,x=>qvb fr t x
 | .rp fr t,x=> .rptr fr t [x] (.ofNat 0) 0
 | .own i,_=> .own (.o i)
 | .kid i f,x=> .own (.r i x f)
 | .ptr i,_=> .ptr (.o i) (.ofNat 0) 0
 | .mp i,_=> .mp (.o i)
 | .dm fr kt vt,es=> .dm fr kt vt es
 | .it,r=> .val (.pointer (some ⟨r,0,none⟩))
 | .e,_=> .val (.slice none 0 0)
 | .fn f l,x=> .fn f (l.enc x)
 | .agg l,x=> .agg (l.enc x)
 | .nl b s,x=> .nl b (s.enc x)
def ShL.enc:(l:ShL)→l.den→List TV
 | .nil,_=>[]
 | .cons s l,x=>s.enc x.1::l.enc x.2
end
def ShL.len:ShL→Nat
 | .nil=>0
 | .cons _ l=>l.len+1
theorem ShL.enc_len:∀(l:ShL) (x:l.den),(l.enc x).length=l.len
 | .nil,_=>rfl
 | .cons s l,x=>by simp[ShL.enc,ShL.len,ShL.enc_len l x.2]
def Hs.enc:(h:Hs)→h.den→TOb
 | .arr ty md its t,xs=> .arr ty md its t xs
 | .cs ty sz n l,x=> .cs ty sz n (l.enc x)
 | .mp kt vt,es=> .mp kt vt es
 | .mo kt u ety,es=> .mo kt u ety es none
def qa8:(l:List (Nat×Sh))→qty l→List (Nat×TV)
 |[],_=>[]
 |p::l,x=>(p.1,p.2.enc x.1)::qa8 l x.2
def ea:(l:List Hs)→u4 l→List TOb
 |[],_=>[]
 |p::l,x=>p.enc x.1::ea l x.2
structure Shp where
 sl : List (Nat × Sh)
 hp : List Hs
def Shp.den(h:Shp):Type:=qty h.sl×u4 h.hp
def Shp.enc(h:Shp)(x:h.den):TS:=⟨qa8 h.sl x.1,ea h.hp x.2⟩
abbrev Rho:=List (Option Nat)
def lx(tg:Nat):Rho→Bool
 |[]=>false
 |some t::l=>Nat.beq t tg||lx tg l
 |none::l=>lx tg l
def qhy:Rho→Bool
 |[]=>true
 |some t::l=> !lx t l&&qhy l
 |none::l=>qhy l
def qnq(fr fr' :Bool):Bool:= !fr||fr'
def q0u(H:List TOb):TG→Option (Bool×(v:Ty)×List v.den)
 | .o t=>
  match H[t]? with
  |some (.arr _ md _ u xs)=>
   match md with
   | .fz fr=>some (fr||u.flat,⟨u,xs⟩)
   | .own=>some (true,⟨u,xs⟩)
   |_=>none
  |_=>none
 | .r t i f=>
  match H[t]? with
  |some (.arr _ .own _ u xs)=>
   match dz u (xs.getD i u.dft) f with
   |some y=>some (true,y)
   |none=>none
  |_=>none
def qfk(bo:Bool)(ρ:Rho)(H:List TOb):TV→TV
 | .own T=>
  match q0u H T with
  |some (fr,⟨u,xs⟩)=>bif !lx T.ob ρ then .sl (fr&& !bo) u xs else .any
  |none=> .any
 | .ownS T off n=>
  match q0u H T with
  |some (fr,⟨u,xs⟩)=>bif !lx T.ob ρ then .sl (fr&& !bo) u ((xs.drop off).take n)else .any
  |none=> .any
 | .int k n=> .int k n
 | .bool b=> .bool b
 | .val u=> .val u
 | .e0=> .e0
 | .sl fr t xs=> .sl fr t xs
 |_=> .any
def qfj(bo:Bool)(ρ:Rho)(H:List TOb):List TV→List TV
 |[]=>[]
 |v::l=>qfk bo ρ H v::qfj bo ρ H l
def qcc(fr:Bool)(t:Ty)(cs:List TV):Option t.den:=
 match t.pack1 cs with
 |some (x,g)=>bif qnq fr g then some x else none
 |none=>none
def jho(H:List TOb):TV→Option (Nat×Nat×Nat×List TV)
 | .own (.o tg)=>match H[tg]? with|some (.cs _ sz n cs)=>some (tg,sz,n,cs)|_=>none
 |_=>none
def jht(fr:Bool)(t:Ty)(n:Nat)(cs:List TV):Option (List t.den):=
 match t.packN n cs with
 |some (xs,g)=>bif qnq fr g then some xs else none
 |none=>none
def jk5(bo:Bool)(ρ:Rho)(H:List TOb)(fr:Bool):(t:Ty)→TV→Option t.den
 | .struct l,v=>match v with| .agg cs=>qcc fr (.struct l) (qfj bo ρ H cs)|_=>none
 | .int k,v=>qcc fr (.int k) [v]
 | .bool,v=>qcc fr .bool [v]
 | .str,v=>qcc fr .str [v]
 | .slice t,v=>
  match jho H v with
  |some (tg,sz,n,cs)=>bif !lx tg ρ&&Nat.beq sz t.sz&&qnq fr (!bo)then jht fr t n (qfj bo ρ H cs)else none
  |none=>qcc fr (.slice t) [qfk bo ρ H v]
def jk2{t u:Ty}(h:t=u)(x:t.den):u.den:=h▸x
def q9k(bo:Bool)(ρ:Rho)(H:List TOb)(fr:Bool)(t:Ty):TV→Option t.den
 | .rptr fr' t' [x] (.ofNat 0) 0=>match t'.eq? t with|some ⟨h⟩=>bif qnq fr fr' then some (jk2 h x)else none|none=>none
 | .ptr (.o tg) (.ofNat 0) 0=>
  match H[tg]? with
  |some (.cs _ sz n cs)=>bif !lx tg ρ&&Nat.beq n 1&&Nat.beq sz t.sz&&qnq fr (!bo)then qcc fr t (qfj bo ρ H cs)else none
  |_=>none
 |_=>none
def q4t{kt vt kt' vt' :Ty}(h1:kt' =kt)(h2:vt' =vt)(es:List (kt'.den×vt'.den)):List (kt.den×vt.den):=h1▸h2▸es
def jk3{kt u kt' u' :Ty}(h1:kt' =kt)(h2:u' =u)(es:List (kt'.den×List u'.den)):List (kt.den×List u.den):=h1▸h2▸es
def jhs(bo:Bool)(ρ:Rho)(H:List TOb)(fr:Bool)(kt vt:Ty)(v:TV):Option (List (kt.den×vt.den)):=
 match v with
 | .dm fr' kt' vt' es=>
  match kt'.eq? kt,vt'.eq? vt with
  |some ⟨h1⟩,some ⟨h2⟩=>bif qnq fr fr' then some (q4t h1 h2 es)else none
  |_,_=>none
 | .val (.map none)=>some []
 | .mp (.o tg)=>
  match H[tg]? with
  |some (.mo kt' u ety es none)=>
   match kt'.eq? kt,(Ty.slice u).eq? vt with
   |some ⟨h1⟩,some ⟨h2⟩=>bif !lx tg ρ&&qnq fr (!bo)then some (q4t (vt' := .slice u) h1 h2 es)else none
   |_,_=>none
  |some (.mp kt' vt' es)=>
   match kt'.eq? kt,vt'.eq? vt with
   |some ⟨h1⟩,some ⟨h2⟩=>bif !lx tg ρ&&qnq fr (!bo)&&vt'.one then some (q4t h1 h2 es)else none
   |_,_=>none
  |_=>none
 |_=>none
mutual
def Sh.dec(bo:Bool)(ρ:Rho)(H:List TOb):(s:Sh)→TV→Option s.den
 | .d fr t,v=>jk5 bo ρ H fr t v.st
 | .rp fr t,v=>q9k bo ρ H fr t v.st
 | .own i,v=>
  match v.st with
  | .own (.o tg)=>match ρ[i]? with|some (some t)=>bif Nat.beq t tg then some ()else none|_=>none
  | .val (.slice none 0 0)=>match ρ[i]? with|some none=>some ()|_=>none
  | .e0=>match ρ[i]? with|some none=>some ()|_=>none
  |_=>none
 | .kid i f,v=>
  match v.st with
  | .own (.r tg j f')=>match ρ[i]? with|some (some t)=>bif Nat.beq t tg&&Nat.beq f' f then some j else none|_=>none
  |_=>none
 | .ptr i,v=>
  match v.st with
  | .ptr (.o tg) (.ofNat 0) 0=>match ρ[i]? with|some (some t)=>bif Nat.beq t tg then some ()else none|_=>none
  |_=>none
 | .mp i,v=>
  match v.st with
  | .mp (.o tg)=>match ρ[i]? with|some (some t)=>bif Nat.beq t tg then some ()else none|_=>none
  |_=>none
 | .dm fr kt vt,v=>jhs bo ρ H fr kt vt v.st
 | .it,v=>match v.st with| .val (.pointer (some ⟨r,0,none⟩))=>some r|_=>none
 | .e,v=>match v.st with| .val (.slice none 0 0)=>some ()|_=>none
 | .fn f l,v=>match v.st with| .fn f' cs=>bif Nat.beq f' f then l.dec bo ρ H cs else none|_=>none
 | .agg l,v=>match v.st with| .agg cs=>l.dec bo ρ H cs|_=>none
 | .nl b s,v=>bif v.isN b then s.dec bo ρ H v.st else none
def ShL.dec(bo:Bool)(ρ:Rho)(H:List TOb):(l:ShL)→List TV→Option l.den
 | .nil,cs=>match cs with|[]=>some ()|_=>none
 | .cons s l,cs=>
  match cs with
  |v::r=>match s.dec bo ρ H v with|some x=>(match l.dec bo ρ H r with|some y=>some (x,y)|none=>none)|none=>none
  |[]=>none
end
def q0v:Md→Md→Bool
 | .fz fr, .fz fr' =>qnq fr fr'
 | .own, .own=>true
 |_,_=>false
def q7l:List TypeId→List TypeId→Bool
 |[],[]=>true
 |a::l,b::m=>Nat.beq a b&&q7l l m
 |_,_=>false
def je7:Md→Bool
 | .fz _=>true
 | .own=>true
 |_=>false
def Hs.dec(bo:Bool)(ρ:Rho)(H:List TOb)(o:Option Nat):(h:Hs)→Option h.den
 | .arr ty md its t=>
  match o with
  |none=>bif je7 md then some ([]:List t.den)else none
  |some tg=>
   match H[tg]? with
   |some (.arr ty' md' its' t' xs)=>match t'.eq? t with|some ⟨h⟩=>bif Nat.beq ty' ty&&q0v md md' &&q7l its' its then some (tl h xs)else none|none=>none
   |_=>none
 | .cs ty sz n l=>
  match o with
  |none=>none
  |some tg=>
   match H[tg]? with
   |some (.cs ty' sz' n' ws)=>bif Nat.beq ty' ty&&Nat.beq sz' sz&&Nat.beq n' n&&Nat.blt 0 n then l.dec bo ρ H ws else none
   |_=>none
 | .mp kt vt=>
  match o with
  |none=>none
  |some tg=>
   match H[tg]? with
   |some (.mp kt' vt' es)=>
    match kt'.eq? kt,vt'.eq? vt with
    |some ⟨h1⟩,some ⟨h2⟩=>some (q4t h1 h2 es)
    |_,_=>none
   |_=>none
 | .mo kt u ety=>
  match o with
  |none=>none
  |some tg=>
   match H[tg]? with
   |some (.mo kt' u' ety' es none)=>
    match kt'.eq? kt,u'.eq? u with
    |some ⟨h1⟩,some ⟨h2⟩=>bif Nat.beq ety' ety then some (jk3 h1 h2 es)else none
    |_,_=>none
   |_=>none
def q6d(bo:Bool)(ρ:Rho)(s:TS):(l:List (Nat×Sh))→Option (qty l)
 |[]=>some ()
 |p::l=>match p.2.dec bo ρ s.H (bg s.S p.1)with|some x=>(match q6d bo ρ s l with|some y=>some (x,y)|none=>none)|none=>none
def qfh(bo:Bool)(ρ:Rho)(H:List TOb):Rho→(l:List Hs)→Option (u4 l)
 |[],[]=>some ()
 |o::os,p::l=>match p.dec bo ρ H o with|some x=>(match qfh bo ρ H os l with|some y=>some (x,y)|none=>none)|none=>none
 |_,_=>none
mutual
def Sh.fnd:Sh→TV→Rho→Rho
 | .own i,v,ρ=>match v.st with| .own (.o tg)=>ρ.set i (some tg)|_=>ρ
 | .kid i _,v,ρ=>match v.st with| .own (.r tg _ _)=>ρ.set i (some tg)|_=>ρ
 | .ptr i,v,ρ=>match v.st with| .ptr (.o tg) _ _=>ρ.set i (some tg)|_=>ρ
 | .mp i,v,ρ=>match v.st with| .mp (.o tg)=>ρ.set i (some tg)|_=>ρ
 | .fn _ l,v,ρ=>match v.st with| .fn _ cs=>l.fnd cs ρ|_=>ρ
 | .agg l,v,ρ=>match v.st with| .agg cs=>l.fnd cs ρ|_=>ρ
 | .nl _ s,v,ρ=>s.fnd v.st ρ
 |_,_,ρ=>ρ
def ShL.fnd:ShL→List TV→Rho→Rho
 | .cons s l,v::r,ρ=>l.fnd r (s.fnd v ρ)
 |_,_,ρ=>ρ
end
def jfc(S:List (Nat×TV)):List (Nat×Sh)→Rho→Rho
 |[],ρ=>ρ
 |p::l,ρ=>jfc S l (p.2.fnd (bg S p.1) ρ)
def q5e(H:List TOb):Nat→List Hs→Rho→Rho
 |_,[],ρ=>ρ
 |i, .cs _ _ _ l::hs,ρ=>q5e H (i+1) hs (match ρ[i]? with|some (some tg)=>(match H[tg]? with|some (.cs _ _ _ cs)=>l.fnd cs ρ|_=>ρ)|_=>ρ)
 |i,_::hs,ρ=>q5e H (i+1) hs ρ
def jfa:Nat→List Bool→Rho→Rho
 |_,[],ρ=>ρ
 |t,k::kp,ρ=>jfa (t+1) kp (bif k then ρ.set t (some t)else ρ)
def q7n:Nat→List Bool→Rho→Bool
 |_,[],_=>true
 |t,true::kp,ρ=>(match ρ[t]? with|some (some t')=>Nat.beq t' t|_=>false)&&q7n (t+1) kp ρ
 |t,false::kp,ρ=>q7n (t+1) kp ρ
def jhq(N:Nat)(kp:List Bool)(p:Nat)(s:TS):TS:=
 match bg s.S p with
 | .ownS (.o t) off n=>
  match s.H[t]? with
  |some (.arr ty (.fz fr) its u xs)=>bif !bk kp t&&Nat.blt p N&&Nat.blt 0 u.sz then⟨(p, .own (.o t))::um (a9 t) s.S,(ck (a9 t) s.H).set t (.arr ty (.fz fr) its u ((xs.drop off).take n))⟩else s
  |_=>s
 |_=>s
def q9j(N:Nat)(kp:List Bool):List (Nat×Sh)→TS→TS
 |[],s=>s
 |(p, .own _)::l,s=>q9j N kp l (jhq N kp p s)
 |_::l,s=>q9j N kp l s
def jhp(kp:List Bool)(tb j:Nat)(s:TS):TS:=
 match s.H[tb]? with
 |some (.cs ty sz n cs)=>
  match cs.getD j .any with
  | .ownS (.o t) off m=>
   match s.H[t]? with
   |some (.arr ty2 (.fz fr) its u xs)=>
    bif !bk kp t&&Nat.beq n 1&&Nat.blt j sz&& !Nat.beq t tb&&Nat.blt 0 u.sz then⟨um (a9 t) s.S,((ck (a9 t) s.H).set t (.arr ty2 (.fz fr) its u ((xs.drop off).take m))).set tb (.cs ty sz n ((TV.sbL (a9 t) cs).set j (.own (.o t))))⟩else s
   |_=>s
  |_=>s
 |_=>s
def jab:TV→Bool
 | .ownS _ _ _=>true
 |_=>false
def q4x(kp:List Bool)(tb:Nat):Nat→List TV→TS→TS
 |_,[],s=>s
 |j,v::l,s=>q4x kp tb (j+1) l (bif jab v then jhp kp tb j s else s)
def q4y(kp:List Bool):Nat→List TOb→TS→TS
 |_,[],s=>s
 |tb, .cs _ _ _ cs::l,s=>q4y kp (tb+1) l (q4x kp tb 0 cs s)
 |tb,_::l,s=>q4y kp (tb+1) l s
def q94:List Hs→Bool
 |[]=>false
 | .cs _ _ _ _::_=>true
 |_::l=>q94 l
def q7a(N:Nat)(kp:List Bool)(h:Shp)(s:TS):TS:=bif q94 h.hp then q4y kp 0 s.H (q9j N kp h.sl s)else q9j N kp h.sl s
def Shp.rho(kp:List Bool)(h:Shp)(s:TS):Rho:=q5e s.H 0 h.hp (jfc s.S h.sl (jfa 0 kp (List.replicate h.hp.length none)))
def Shp.decR(bo:Bool)(h:Shp)(s:TS)(ρ:Rho):Option h.den:=
 bif qhy ρ then
  match q6d bo ρ s h.sl with
  |some x=>(match qfh bo ρ s.H ρ h.hp with|some y=>some (x,y)|none=>none)
  |none=>none
 else none
def Shp.dec(N:Nat)(kp:List Bool)(h:Shp)(s:TS):Option h.den:=
 bif q7n 0 kp (h.rho kp (q7a N kp h s))then h.decR false (q7a N kp h s) (h.rho kp (q7a N kp h s))else none
end Go.K
namespace Go.K
open Go.M Go.RowKit
variable {F : Nat → Prop}
theorem qe0{tg:Nat}:∀{ρ:Rho},lx tg ρ=true↔some tg∈ρ
 |[]=>by simp[lx]
 |some t::l=>by
  simp only[lx,Bool.or_eq_true,List.mem_cons,Option.some.injEq,qe0 (ρ:=l)];exact⟨fun h=>h.imp (fun e=>(ar e).symm) id,fun h=>h.imp (fun e=>by rw[e];exact Nat.beq_refl _) id⟩
 |none::l=>by
  simp only[lx,List.mem_cons,reduceCtorEq,false_or,qe0 (ρ:=l)]
theorem z7{tg:Nat}{ρ:Rho}:lx tg ρ=false↔some tg∉ρ:=by
 rw[←qe0 (ρ:=ρ)];cases lx tg ρ<;>simp
theorem qoo:∀{ρ:Rho},qhy ρ=true→∀{i j tg:Nat},ρ[i]? =some (some tg)→ρ[j]? =some (some tg)→i=j
 |[],_,i,j,tg,h,_=>by simp at h
 |some t::l,hok,i,j,tg,h1,h2=>by
  simp only[qhy,Bool.and_eq_true,Bool.not_eq_true']at hok;cases i with
  |zero=>
   cases j with
   |zero=>rfl
   |succ j=>
    simp at h1;subst h1;exact absurd (List.mem_of_getElem? (show l[j]? =some (some t) by simpa using h2)) (z7.1 hok.1)
  |succ i=>
   cases j with
   |zero=>
    simp at h2;subst h2;exact absurd (List.mem_of_getElem? (show l[i]? =some (some t) by simpa using h1)) (z7.1 hok.1)
   |succ j=>rw[qoo hok.2 (i:=i) (j:=j) (by simpa using h1) (by simpa using h2)]
 |none::l,hok,i,j,tg,h1,h2=>by
  cases i with
  |zero=>simp at h1
  |succ i=>
   cases j with
   |zero=>simp at h2
   |succ j=>rw[qoo (ρ:=l) hok (i:=i) (j:=j) (by simpa using h1) (by simpa using h2)]
def lw(ρ:Rho)(σ:Pl):Pl:=fun T=>match ρ[T.ob]? with|some (some tg)=>σ (T.at tg)|_=>none
theorem v5{ρ:Rho}{σ:Pl}{T:TG}{p:Nat×Nat}(h:lw ρ σ T=some p):∃tg,ρ[T.ob]? =some (some tg)∧σ (T.at tg)=some p:=by
 unfold lw at h;split at h
 ·rename_i tg e;exact⟨tg,e,h⟩
 ·cases h
theorem t8{ρ:Rho}{σ:Pl}{T:TG}{tg:Nat}(h:ρ[T.ob]? =some (some tg)):lw ρ σ T=σ (T.at tg):=by simp only[lw,h]
section
variable {U U' : Nat → Prop} {w0 : World} {σ0 : Pl} {K : Nat → Bool} {H Hv H' : List TOb} {w : World} {σ : Pl} {ρ : Rho} {bo : Bool}
structure Cv (U U' : Nat → Prop) (w0 : World) (σ0 : Pl) (K : Nat → Bool) (H Hv H' : List TOb) (w : World) (σ : Pl) (ρ : Rho) (bo : Bool) : Prop where
 hr : HR U w0 σ0 K (vw H) w σ
 le : HLe (fun _ => False) Hv H
 ok : qhy ρ = true
 u : ∀ b, U' b → U b ∨ dq σ b
 nb : bo = false → ∀ b, U' b → U b
 dim : ∀ i tg, ρ[i]? = some (some tg) → ai (vw H') (.o i) = ai (vw H) (.o tg)
 nil : ∀ i, ρ[i]? = some none → ∃ sz, ai (vw H') (.o i) = some (0, sz)
 kdim : ∀ i tg, ρ[i]? = some (some tg) → ∀ j f q, ai (vw H) (.r tg j f) = some q → ai (vw H') (.r i j f) = some q
theorem Cv.x(_h:Cv U U' w0 σ0 K H Hv H' w σ ρ bo){b:Nat}(hb:dq (lw ρ σ) b):dq σ b:=by
 obtain⟨T,o,hT⟩:=hb;obtain⟨tg,_,h2⟩:=v5 hT;exact⟨_,o,h2⟩
theorem Cv.low(h:Cv U U' w0 σ0 K H Hv H' w σ ρ bo)(fr:Bool):Low w (YY (dq σ) U fr) w (YY (dq (lw ρ σ)) U' fr):=by
 refine⟨Nat.le_refl _,fun b _ hY hY' =>hY ?_,fun _ _ _=>rfl⟩;rcases hY' with e|⟨e1,e2⟩
 ·exact .inl (h.x e)
 ·rcases h.u b e2 with e|e
  ·exact .inr ⟨e1,e⟩
  ·exact .inl e
theorem Cv.out(h:Cv U U' w0 σ0 K H Hv H' w σ ρ bo){T:TG}(hT:lx T.ob ρ=false){g o:Nat}(hσ:σ T=some (g,o)){fr:Bool}(hf:fr=true→bo=false):¬YY (dq (lw ρ σ)) U' fr g:=by
 rintro(⟨T',o',hT'⟩|⟨e1,e2⟩)
 ·obtain⟨tg,h1,h2⟩:=v5 hT';have:=h.hr.inj _ _ _ _ _ hσ h2;rw[this,TG.at_ob]at hT;exact z7.1 hT (List.mem_of_getElem? h1)
 ·exact(h.hr.own _ _ _ hσ).1 (h.nb (hf e1) g e2)
theorem Cv.row(h:Cv U U' w0 σ0 K H Hv H' w σ ρ bo){T:TG}{fr:Bool}{u:Ty}{xs:List u.den}(hl:q0u Hv T=some (fr,⟨u,xs⟩))(hT:lx T.ob ρ=false):
  (∀q,ai (vw H) T=some q→q=(xs.length,u.sz))∧∀g o,σ T=some (g,o)→qd2 w (YY (dq (lw ρ σ)) U' (fr&& !bo)) u xs g o:=by
 have hfb:(fr&& !bo)=true→bo=false:=fun e=>by simp only[Bool.and_eq_true,Bool.not_eq_true']at e;exact e.2
 have hlow:∀fr0,((fr&& !bo)=true→fr0=true)→Low w (YY (dq σ) U fr0) w (YY (dq (lw ρ σ)) U' (fr&& !bo)):=by
  intro fr0 h0;refine⟨Nat.le_refl _,fun b hb hY hY' =>(h.low (fr&& !bo)).ex b hb (fun hY2=>hY ?_) hY',fun _ _ _=>rfl⟩;rcases hY2 with e|⟨e1,e2⟩
  ·exact .inl e
  ·exact .inr ⟨h0 e1,e2⟩
 cases T with
 |o t=>
  simp only[q0u]at hl;split at hl
  ·rename_i ty md its u' xs' hov;have ho:=h.le.ob hov;split at hl
   ·rename_i fr';simp only[Option.some.injEq,Prod.mk.injEq,Sigma.mk.injEq]at hl;obtain⟨rfl,rfl,hx⟩:=hl;have hx:=eq_of_heq hx;subst hx;refine⟨fun q hq=>by simp only[ai,au ho,Option.map_some,Option.some.injEq]at hq;exact hq.symm,fun g o hσ=> ?_⟩;have hob:=h.hr.obj _ _ (au ho);rw[hσ]at hob;refine OR.row hob (h.hr.lt hσ) (h.out hT hσ hfb) rfl rfl fun j f hj hf y hV=> ?_
    simp only[kl]at hV;have hC:=(Ty.C_iff (gr U (vw H) w σ) fr' u' _ f y hf).2 hV;by_cases hfl:u'.flat=true
    ·exact Ty.C_flat u' _ f y hfl hC
    ·refine Ty.C_low (hlow fr' (fun e=> ?_)) u' _ f y hC;simp only[Bool.and_eq_true,Bool.or_eq_true]at e;exact e.1.resolve_right hfl
   ·simp only[Option.some.injEq,Prod.mk.injEq,Sigma.mk.injEq]at hl;obtain⟨rfl,rfl,hx⟩:=hl;have hx:=eq_of_heq hx;subst hx;refine⟨fun q hq=>by simp only[ai,au ho,Option.map_some,Option.some.injEq]at hq;exact hq.symm,fun g o hσ=> ?_⟩;have hob:=h.hr.obj _ _ (au ho);rw[hσ]at hob;refine OR.row hob (h.hr.lt hσ) (h.out hT hσ hfb) rfl rfl fun j f hj hf y hV=> ?_
    exact jag h.hr ho (hlow true fun _=>rfl) (fun i f g o hk=>h.out (T:= .r t i f) hT hk hfb) hj hf hV
   ·cases hl
  ·cases hl
 |r t i f=>
  simp only[q0u]at hl;split at hl
  ·rename_i ty its u' xs' hov;have ho:=h.le.ob hov;split at hl
   ·rename_i y hin;simp only[Option.some.injEq,Prod.mk.injEq]at hl;obtain⟨rfl,rfl⟩:=hl;have hinfo:∀q,ai (vw H) (.r t i f)=some q→i<xs'.length∧q=(xs.length,u.sz):=by
     intro q hq;simp only[ai,jp ho]at hq;split at hq
     ·rename_i hc;rw[hin]at hq;simp only[kv,Option.map_some,Option.some.injEq]at hq;exact⟨hc.2,hq.symm⟩
     ·cases hq
    refine⟨fun q hq=>(hinfo q hq).2,fun g o hσ=> ?_⟩;obtain⟨v,hv⟩:=h.hr.dom _ _ hσ;have hi:=(hinfo _ (by simp only[ai,hv];rfl)).1;exact qqz h.hr ho rfl (hlow true fun _=>rfl) hi hin hσ (h.out (T:= .r t i f) hT hσ hfb)
   ·cases hl
  ·cases hl
theorem Cv.lend(h:Cv U U' w0 σ0 K H Hv H' w σ ρ bo):∀(A:TV) (v:Value),VR (gr U (vw H) w σ) A v→VR (gr U' (vw H') w (lw ρ σ)) (qfk bo ρ Hv A) v
 | .own T,v,hv=>by
  simp only[qfk];split
  ·rename_i fr u xs hl;cases hb:lx T.ob ρ with
   |true=>simp[hb,VR]
   |false=>
    obtain⟨h1,h2⟩:=h.row hl hb;obtain⟨n,sz,hI,hs⟩:=hv;have:=h1 _ hI;simp only[Prod.mk.injEq]at this;obtain⟨rfl,rfl⟩:=this;have h3:=SlR.fz (off:=0) (n:=xs.length) (by omega) h2 hs;simp only[List.drop_zero,List.take_length]at h3;exact h3
  ·trivial
 | .ownS T off m,v,hv=>by
  simp only[qfk];split
  ·rename_i fr u xs hl;cases hb:lx T.ob ρ with
   |true=>simp[hb,VR]
   |false=>
    obtain⟨h1,h2⟩:=h.row hl hb;obtain⟨n,sz,hI,hle,hs⟩:=hv;have:=h1 _ hI;simp only[Prod.mk.injEq]at this;obtain⟨rfl,rfl⟩:=this;exact SlR.fz hle h2 hs
  ·trivial
 | .int k n,v,hv=>hv
 | .bool b,v,hv=>hv
 | .val u,v,hv=>hv
 | .e0,v,hv=>hv
 | .sl fr t xs,v,hv=>Ty.C_low (h.low fr) (.slice t) xs 0 v hv
 | .any,_,_=>trivial
 | .rptr _ _ _ _ _,_,_=>trivial
 | .ptr _ _ _,_,_=>trivial
 | .mp _,_,_=>trivial
 | .dm _ _ _ _,_,_=>trivial
 | .fn _ _,_,_=>trivial
 | .agg _,_,_=>trivial
 | .tup _,_,_=>trivial
 | .cond _ _,_,_=>trivial
 | .nl _ _,_,_=>trivial
theorem qlz(bo:Bool)(ρ:Rho)(H:List TOb):∀(cs:List TV) (j:Nat),(qfj bo ρ H cs).getD j .any=qfk bo ρ H (cs.getD j .any)
 |[],j=>by simp[qfj,qfk]
 |v::l,0=>by simp[qfj]
 |v::l,j+1=>by simpa[qfj]using qlz bo ρ H l j
theorem qv0(bo:Bool)(ρ:Rho)(H:List TOb):∀(cs:List TV),(qfj bo ρ H cs).length=cs.length
 |[]=>rfl
 |v::l=>by simp[qfj,qv0 bo ρ H l]
theorem qam{fr g:Bool}(h:qnq fr g=true):fr=true→g=true:=by
 intro e;subst e;simpa[qnq]using h
theorem qid{G:Gr}{fr:Bool}{t:Ty}{cs:List TV}{x:t.den}(h:qcc fr t cs=some x):cs.length=t.sz∧∀f,f<t.sz→∀y,VR G (cs.getD f .any) y→VR G ((t.cells fr x).getD f .any) y:=by
 unfold qcc at h;split at h
 ·rename_i x' g hp;obtain⟨hb,h⟩:=ah h;cases h;obtain⟨h1,h2⟩:=Ty.pack1_ok (G:=G) hp;exact⟨h1,fun f hf y hy=>(Ty.C_iff G fr t x f y hf).1 (Ty.C_fr (qam hb) (h2 f hf y hy))⟩
 ·cases h
theorem jc2(h:Cv U U' w0 σ0 K H Hv H' w σ ρ bo){fr:Bool}:∀{t:Ty} {A:TV} {x:t.den},jk5 bo ρ Hv fr t A=some x→∀{v:Value},VR (gr U (vw H) w σ) A v→VR (gr U' (vw H') w (lw ρ σ)) (qvb fr t x) v
 | .struct l,A,x,hd,v,hv=>by
  cases A
  case agg cs=>
   have hd:qcc fr (.struct l) (qfj bo ρ Hv cs)=some x:=hd;obtain⟨h1,h2⟩:=qid (G:=gr U' (vw H') w (lw ρ σ)) hd;obtain⟨vs,rfl,hvs,h3⟩:=hv;rw[qv0]at h1;refine⟨vs,rfl,ie.of ?_ (fun j B y hB hy=> ?_),h3⟩
   ·rw[hvs.len,h1];exact(TyL.cells_len fr l x).symm
   ·have hj:j<(Ty.struct l).sz:=by
     have:=(List.getElem?_eq_some_iff.1 hB).1;exact Nat.lt_of_lt_of_eq this (TyL.cells_len fr l x)
    obtain⟨y',hy',hV⟩:=hvs.getD j (by omega);rw[hy]at hy';cases hy';have h4:=h2 j hj y (by rw[qlz];exact h.lend _ _ hV);have e:(Ty.cells fr (.struct l) x).getD j .any=B:=by
     have hB' :(Ty.cells fr (.struct l) x)[j]? =some B:=hB;rw[List.getD_eq_getElem?_getD,hB'];rfl
    rw[e]at h4;exact h4
  all_goals cases hd
 | .int k,A,x,hd,v,hv=>by
  have hd:qcc fr (.int k) [A]=some x:=hd;have hd' :qcc fr (.int k) [qfk bo ρ Hv A]=some x:=by
   cases A<;>first|exact hd|(simp[qcc,Ty.pack1,Ty.pack]at hd)
  exact(qid (G:=gr U' (vw H') w (lw ρ σ)) hd').2 0 (by simp[Ty.sz]) v (h.lend _ _ hv)
 | .bool,A,x,hd,v,hv=>by
  have hd:qcc fr .bool [A]=some x:=hd;have hd' :qcc fr .bool [qfk bo ρ Hv A]=some x:=by
   cases A<;>first|exact hd|(simp[qcc,Ty.pack1,Ty.pack]at hd)
  exact(qid (G:=gr U' (vw H') w (lw ρ σ)) hd').2 0 (by simp[Ty.sz]) v (h.lend _ _ hv)
 | .str,A,x,hd,v,hv=>by
  have hd:qcc fr .str [A]=some x:=hd;have hd' :qcc fr .str [qfk bo ρ Hv A]=some x:=by
   cases A<;>first|exact hd|(simp[qcc,Ty.pack1,Ty.pack]at hd)
  exact(qid (G:=gr U' (vw H') w (lw ρ σ)) hd').2 0 (by simp[Ty.sz]) v (h.lend _ _ hv)
 | .slice t,A,x,hd,v,hv=>by
  have hd:(match jho Hv A with|some (tg,sz,n,cs)=>bif !lx tg ρ&&Nat.beq sz t.sz&&qnq fr (!bo)then jht fr t n (qfj bo ρ Hv cs)else none|none=>qcc fr (.slice t) [qfk bo ρ Hv A])=some x:=hd;split at hd
  ·rename_i tg sz n cs hcs;have hb:=(ah hd).1
   replace hd:=(ah hd).2
   simp only[Bool.and_eq_true,Bool.not_eq_true']at hb;obtain⟨⟨hb1,hb2⟩,hb3⟩:=hb;unfold jho at hcs;split at hcs
   ·rename_i tg';split at hcs
    ·rename_i ty sz' n' cs' hov;simp only[Option.some.injEq,Prod.mk.injEq]at hcs;obtain⟨rfl,rfl,rfl,rfl⟩:=hcs;have ho:=h.le.obc hov;have hsz:=ar hb2;subst hsz;unfold jht at hd;split at hd
     ·rename_i xs g hpk;have hg:=(ah hd).1;have hx:xs=x:=Option.some.inj (ah hd).2;clear hd;subst hx;obtain⟨q1,q2,q3⟩:=Ty.packN_ok (G:=gr U' (vw H') w (lw ρ σ)) hpk;have hO:vw H (.o tg')=some ⟨ty,t.sz,n',fun i f=>cs'.getD (i*t.sz+f) .any⟩:=by simp[vw,ho,vwO]
      obtain⟨m,sz2,hI,hs⟩:=hv;have hI' :ai (vw H) (.o tg')=some (m,sz2):=hI;simp only[ai,hO,Option.map_some,Option.some.injEq,Prod.mk.injEq]at hI';obtain⟨rfl,rfl⟩:=hI';have hrow:∀g' o,σ (.o tg')=some (g',o)→qd2 w (YY (dq (lw ρ σ)) U' fr) t xs g' o:=by
       intro g' o hσ;have hob:=h.hr.obj _ _ hO;rw[hσ]at hob;refine OR.row hob (h.hr.lt hσ) (h.out (T:= .o tg') hb1 hσ (fun e=>by simpa[qnq,e]using hb3)) rfl q1.symm fun i f hi hf y hV=> ?_
       have h1:=q3 i f (by omega) hf y (by rw[qlz];exact h.lend _ _ hV);exact Ty.C_fr (G:=gr U' (vw H') w (lw ρ σ)) (qam hg) h1
      have h3:=SlR.fz (off:=0) (n:=xs.length) (by omega) hrow (by rw[q1];exact hs);simp only[List.drop_zero,List.take_length]at h3;exact h3
     ·cases hd
    ·cases hcs
   ·cases hcs
  ·exact(qid (G:=gr U' (vw H') w (lw ρ σ)) (show qcc fr (.slice t) [qfk bo ρ Hv A]=some x from hd)).2 0 (by simp[Ty.sz]) v (h.lend _ _ hv)
end
end Go.K
namespace Go.K
open Go.M Go.RowKit
section
variable {U U' : Nat → Prop} {w0 : World} {σ0 : Pl} {K : Nat → Bool} {H Hv H' : List TOb} {w : World} {σ : Pl} {ρ : Rho} {bo : Bool}
theorem q9l(h:Cv U U' w0 σ0 K H Hv H' w σ ρ bo){fr:Bool}{t:Ty}{A:TV}{x:t.den}(hd:q9k bo ρ Hv fr t A=some x){v:Value}(hv:VR (gr U (vw H) w σ) A v):VR (gr U' (vw H') w (lw ρ σ)) (.rptr fr t [x] (.ofNat 0) 0) v:=by
 unfold q9k at hd;split at hd
 ·rename_i fr' t' x';split at hd
  ·rename_i he _;obtain⟨hb,hd⟩:=ah hd;subst he;cases hd;obtain⟨b,o,rfl,hrow⟩:=hv;refine⟨b,o,rfl,?_⟩;refine qd2.low (w:=w) (w' :=w) ⟨Nat.le_refl _,fun b hb' hY hY' =>(h.low fr).ex b hb' (fun hY2=>hY ?_) hY',fun _ _ _=>rfl⟩ hrow;rcases hY2 with e|⟨e1,e2⟩
   ·exact .inl e
   ·exact .inr ⟨qam hb e1,e2⟩
  ·cases hd
 ·rename_i tg;split at hd
  ·rename_i ty sz n cs hov;have hb:=(ah hd).1
   replace hd:=(ah hd).2
   simp only[Bool.and_eq_true,Bool.not_eq_true']at hb;obtain⟨⟨⟨hb1,hb2⟩,hb3⟩,hb4⟩:=hb;have hn:=ar hb2;have hsz:=ar hb3;subst hn;subst hsz;obtain⟨h1,h2⟩:=qid (G:=gr U' (vw H') w (lw ρ σ)) hd;obtain⟨g,o,n,sz,hσ,hI,rfl⟩:=hv;have hvw:=vk (h.le.obc hov);have hI' :ai (vw H) (.o tg)=some (n,sz):=hI;simp only[ai,hvw,Option.map_some,Option.some.injEq,Prod.mk.injEq]at hI';obtain⟨rfl,rfl⟩:=hI';have hob:=h.hr.obj _ _ hvw;have hσ' :σ (.o tg)=some (g,o):=hσ;rw[hσ']at hob;refine⟨g,o,rfl,h.hr.lt hσ',h.out (T:= .o tg) hb1 hσ' (fun e=>by have:=qam hb4 e;simpa using this),fun i f hi hf=> ?_⟩;obtain rfl:i=0:=by simpa using hi
   obtain⟨cur,c,hc1,hc2,hc3,hc4⟩:=hob.cells (.inr (Nat.zero_lt_one));obtain⟨y,hy,h3,hV⟩:=hc4 0 f (by simp) hf;refine⟨y,?_,h3,?_⟩
   ·have hc1' :w.heap[g]? =some (.cells cur ty (0,0)):=hc1;show w.cell? _=_;rw[cell_of_row _ _ _ cur ty (0,0) hc1'];exact hy
   ·simp only[List.getD_cons_zero];refine(Ty.C_iff (gr U' (vw H') w (lw ρ σ)) fr t x f y hf).2 (h2 f hf y ?_);rw[qlz];refine h.lend _ _ ?_;simpa using hV
  ·cases hd
 ·cases hd
theorem jc3(h:Cv U U' w0 σ0 K H Hv H' w σ ρ bo){fr:Bool}{kt vt:Ty}{A:TV}{es:List (kt.den×vt.den)}(hd:jhs bo ρ Hv fr kt vt A=some es){v:Value}(hv:VR (gr U (vw H) w σ) A v):VR (gr U' (vw H') w (lw ρ σ)) (.dm fr kt vt es) v:=by
 unfold jhs at hd;split at hd
 ·rename_i fr' kt' vt' es';split at hd
  ·rename_i h1 h2 _ _;obtain⟨hb,hd⟩:=ah hd;subst h1;subst h2;cases hd;refine qjy.low (w:=w) (w' :=w) ⟨Nat.le_refl _,fun b hb' hY hY' =>(h.low fr).ex b hb' (fun hY2=>hY ?_) hY',fun _ _ _=>rfl⟩ hv;rcases hY2 with e|⟨e1,e2⟩
   ·exact .inl e
   ·exact .inr ⟨qam hb e1,e2⟩
  ·cases hd
 ·cases hd;exact .inl ⟨hv,rfl⟩
 ·rename_i tg;split at hd
  ·rename_i kt' u ety es' hov;split at hd
   ·rename_i h1 h2 _ _
    ·have hb:=(ah hd).1
     replace hd:=(ah hd).2
     subst h1;subst h2;cases hd;simp only[Bool.and_eq_true,Bool.not_eq_true']at hb;obtain⟨hb1,hb2⟩:=hb;have ho:=h.le.obo hov;obtain⟨g,o,q,hσ,_,rfl⟩:=hv;have hσ:σ (.o tg)=some (g,o):=hσ;have hfb:fr=true→bo=false:=fun e=>by have:=qam hb2 e;simpa using this
     have hob:=h.hr.obj _ _ (rk ho);rw[hσ]at hob;obtain⟨hs,c,hh,hmo⟩:=hob.map rfl rfl;have hkl:=ql2 hmo;refine .inr ⟨g,hs,c,rfl,h.hr.lt hσ,h.out (T:= .o tg) hb1 hσ hfb,hh,hmo.1,by have:=hkl.1;rwa[Array.length_toList]at this,fun i e p he hp=>⟨hkl.2 i e p (by simpa using he) hp,?_⟩⟩;obtain⟨pk,py⟩:=p;obtain⟨ys,hys⟩:∃ys:List u.den,ys=py:=⟨py,rfl⟩;have hp:es'[i]? =some (pk,ys):=by rw[hys];exact hp
     show Ty.C w (YY (dq (lw ρ σ)) U' fr) (.slice u) py 0 e.val;rw[←hys];clear hys;obtain⟨_,hV⟩:=hmo.at_ he;have hV:VR (gr U (vw H) w σ) (xm tg kt' es' none i 1) e.val:=hV;rw[qas hp,if_neg (by simp)]at hV;have hi:i<es'.length:=(List.getElem?_eq_some_iff.1 hp).1;have hmr:us es' i=ys:=by unfold us;rw[hp]
     have hvk:vw H (.r tg i 0)=some ⟨ety,u.sz,ys.length,fun j g=>(u.cells true (ys.getD j u.dft)).getD g .any⟩:=by rw[lz ho,if_pos ⟨rfl,hi⟩,hmr]
     obtain⟨n,sz,hI,hS⟩:=hV;have hI:ai (vw H) (.r tg i 0)=some (n,sz):=hI;simp only[ai,hvk,Option.map_some,Option.some.injEq,Prod.mk.injEq]at hI;obtain⟨rfl,rfl⟩:=hI;have hrow:∀g o,σ (.r tg i 0)=some (g,o)→qd2 w (YY (dq (lw ρ σ)) U' fr) u ys g o:=fun g o hσr=>by
      have hor:=h.hr.obj _ _ hvk;rw[hσr]at hor;refine OR.row hor (h.hr.lt hσr) (h.out (T:= .r tg i 0) hb1 hσr hfb) rfl rfl fun j f hj hf y hV=> ?_
      have hC:=(Ty.C_iff (gr U (vw H) w σ) true u _ f y hf).2 hV;refine Ty.C_low (w:=w) (w' :=w) ⟨Nat.le_refl _,fun b hb' hY hY' =>(h.low fr).ex b hb' (fun hY2=>hY ?_) hY',fun _ _ _=>rfl⟩ u _ f y hC;rcases hY2 with e|⟨_,e2⟩
      ·exact .inl e
      ·exact .inr ⟨rfl,e2⟩
     have hS:SlR w σ (.r tg i 0) u.sz 0 ys.length e.val:=hS;have:=SlR.fz (off:=0) (n:=ys.length) (by omega) hrow hS;simp only[List.drop_zero,List.take_length]at this;exact this
   ·cases hd
  ·rename_i kt' vt' es' hov;split at hd
   ·rename_i h1 h2 _ _;have hb:=(ah hd).1
    replace hd:=(ah hd).2
    subst h1;subst h2;cases hd;simp only[Bool.and_eq_true,Bool.not_eq_true']at hb;obtain⟨⟨hb1,hb2⟩,hb3⟩:=hb;have ho:=h.le.obm hov;obtain⟨g,o,q,hσ,_,rfl⟩:=hv;have hσ:σ (.o tg)=some (g,o):=hσ;have hfb:fr=true→bo=false:=fun e=>by have:=qam hb2 e;simpa using this
    have hob:=h.hr.obj _ _ (qd1 ho);rw[hσ]at hob;obtain⟨hs,c,hh,hmo⟩:=hob.map rfl rfl;obtain⟨hl,hat⟩:=(qyf hmo).at_;refine .inr ⟨g,hs,c,rfl,h.hr.lt hσ,h.out (T:= .o tg) hb1 hσ hfb,hh,hmo.1,by rwa[Array.length_toList]at hl,fun i e p he hp=> ?_⟩;obtain⟨e1,e2⟩:=hat i e p (by simpa using he) hp;refine⟨e1,?_⟩;rw[e2];cases vt' with
    |int k=>rfl
    |bool=>rfl
    |str=>rfl
    |slice t=>cases hb3
    |struct l=>cases hb3
   ·cases hd
  ·cases hd
 ·cases hd
theorem VR.st{G:Gr}{A:TV}{v:Value}(h:VR G A v):VR G A.st v:=by
 cases A<;>first|exact h|exact h.1
mutual
theorem Sh.dec_ok(h:Cv U U' w0 σ0 K H Hv H' w σ ρ bo):∀(s:Sh) (A:TV) (x:s.den),s.dec bo ρ Hv A=some x→∀v,VR (gr U (vw H) w σ) A v→VR (gr U' (vw H') w (lw ρ σ)) (s.enc x) v
 | .d fr t,A,x,hd,v,hv=>jc2 h hd hv.st
 | .rp fr t,A,x,hd,v,hv=>q9l h hd hv.st
 | .own i,A,x,hd,v,hv=>by
  have nilCase:ρ[i]? =some none→(∃a,v= .slice a 0 0)→VR (gr U' (vw H') w (lw ρ σ)) (.own (.o i)) v:=by
   rintro hi ⟨a,rfl⟩;obtain⟨sz,hs⟩:=h.nil i hi;exact⟨0,sz,hs, .inl ⟨a,rfl,rfl⟩⟩
  unfold Sh.dec at hd
  replace hv:=hv.st
  generalize A.st=A' at hd hv;split at hd
  ·rename_i tg;split at hd
   ·rename_i t hi;obtain⟨hb,hd⟩:=ah hd;have hb:=ar hb;subst hb;obtain⟨n,sz,hI,hs⟩:=hv;refine⟨n,sz,(h.dim i t hi).trans hI,?_⟩;rcases hs with hs|⟨g,o,c,cur,e,hσ,h1,h2,h3,h4,h5⟩
    ·exact .inl hs
    ·exact .inr ⟨g,o,c,cur,e,(t8 (T:= .o i) hi).trans hσ,h1,h2,h3,h4,h5⟩
   ·cases hd
  ·split at hd
   ·rename_i hi;exact nilCase hi ⟨none,hv⟩
   ·cases hd
  ·split at hd
   ·rename_i hi;exact nilCase hi hv
   ·cases hd
  ·cases hd
 | .kid i f,A,x,hd,v,hv=>by
  unfold Sh.dec at hd
  replace hv:=hv.st
  generalize A.st=A' at hd hv;split at hd
  ·rename_i tg j f';split at hd
   ·rename_i t hi;have hbd:=ah hd;clear hd;obtain⟨hb,hd2⟩:=hbd;simp only[Bool.and_eq_true]at hb;have hb1:=ar hb.1;have hb2:=ar hb.2;subst hb1;subst hb2;cases hd2;obtain⟨n,sz,hI,hs⟩:=hv;refine⟨n,sz,h.kdim i t hi j f' _ hI,?_⟩;rcases hs with hs|⟨g,o,c,cur,e,hσ,h1,h2,h3,h4,h5⟩
    ·exact .inl hs
    ·exact .inr ⟨g,o,c,cur,e,(t8 (T:= .r i j f') hi).trans hσ,h1,h2,h3,h4,h5⟩
   ·cases hd
  ·cases hd
 | .ptr i,A,x,hd,v,hv=>by
  unfold Sh.dec at hd
  replace hv:=hv.st
  generalize A.st=A' at hd hv;split at hd
  ·rename_i tg;split at hd
   ·rename_i t hi;obtain⟨hb,hd⟩:=ah hd;have hb:=ar hb;subst hb;obtain⟨g,o,n,sz,hσ,hI,h1⟩:=hv;exact⟨g,o,n,sz,(t8 (T:= .o i) hi).trans hσ,(h.dim i t hi).trans hI,h1⟩
   ·cases hd
  ·cases hd
 | .dm fr kt vt,A,x,hd,v,hv=>jc3 h hd hv.st
 | .it,A,x,hd,v,hv=>by
  unfold Sh.dec at hd
  replace hv:=hv.st
  generalize A.st=A' at hd hv;split at hd
  ·cases hd;exact hv
  ·cases hd
 | .e,A,x,hd,v,hv=>by
  unfold Sh.dec at hd
  replace hv:=hv.st
  generalize A.st=A' at hd hv;split at hd
  ·exact hv
  ·cases hd
 | .mp i,A,x,hd,v,hv=>by
  unfold Sh.dec at hd
  replace hv:=hv.st
  generalize A.st=A' at hd hv;split at hd
  ·rename_i tg;split at hd
   ·rename_i t hi;obtain⟨hb,hd⟩:=ah hd;have hb:=ar hb;subst hb;obtain⟨g,o,q,hσ,hI,h1⟩:=hv;exact⟨g,o,q,(t8 (T:= .o i) hi).trans hσ,(h.dim i t hi).trans hI,h1⟩
   ·cases hd
  ·cases hd
 | .fn f l,A,x,hd,v,hv=>by
  unfold Sh.dec at hd
  replace hv:=hv.st
  generalize A.st=A' at hd hv;split at hd
  ·rename_i f' cs;obtain⟨hb,hd⟩:=ah hd;have hb:=ar hb;subst hb;obtain⟨vs,h1,h2⟩:=hv;exact⟨vs,h1,ShL.dec_ok h l cs x hd vs h2⟩
  ·cases hd
 | .nl b s,A,x,hd,v,hv=>by
  unfold Sh.dec at hd;obtain⟨hb,hd⟩:=ah hd;exact⟨Sh.dec_ok h s _ x hd v hv.st,q7j hb hv⟩
 | .agg l,A,x,hd,v,hv=>by
  replace hv:=hv.st
  unfold Sh.dec at hd;generalize A.st=A at hd hv;cases A
  case agg cs=>
   have hd:l.dec bo ρ Hv cs=some x:=hd;obtain⟨vs,h1,h2,h3⟩:=hv;exact⟨vs,h1,ShL.dec_ok h l cs x hd vs h2,h3⟩
  all_goals cases hd
theorem ShL.dec_ok(h:Cv U U' w0 σ0 K H Hv H' w σ ρ bo):∀(l:ShL) (cs:List TV) (x:l.den),l.dec bo ρ Hv cs=some x→∀vs,ie (gr U (vw H) w σ) cs vs→ie (gr U' (vw H') w (lw ρ σ)) (l.enc x) vs
 | .nil,cs,x,hd,vs,hv=>by
  unfold ShL.dec at hd;split at hd
  ·exact hv
  ·cases hd
 | .cons s l,cs,x,hd,vs,hv=>by
  unfold ShL.dec at hd;split at hd
  ·rename_i A r;split at hd
   ·rename_i x1 hx;split at hd
    ·rename_i y hy;cases hd;obtain⟨u,m,rfl,h1,h2⟩:=hv;exact⟨u,m,rfl,Sh.dec_ok h s A x1 hx u h1,ShL.dec_ok h l r y hy m h2⟩
    ·cases hd
   ·cases hd
  ·cases hd
end
theorem ShL.dec_at(h:Cv U U' w0 σ0 K H Hv H' w σ ρ bo):∀(l:ShL) (cs:List TV) (x:l.den),l.dec bo ρ Hv cs=some x→∀(j:Nat) v,VR (gr U (vw H) w σ) (cs.getD j .any) v→VR (gr U' (vw H') w (lw ρ σ)) ((l.enc x).getD j .any) v
 | .nil,cs,x,hd,j,v,hv=>by simp[ShL.enc,VR]
 | .cons s l,cs,x,hd,j,v,hv=>by
  unfold ShL.dec at hd;split at hd
  ·rename_i A r;split at hd
   ·rename_i x1 hx;split at hd
    ·rename_i y hy;cases hd;cases j with
     |zero=>simpa[ShL.enc]using Sh.dec_ok h s A x1 hx v (by simpa using hv)
     |succ j=>simpa[ShL.enc]using ShL.dec_at h l r y hy j v (by simpa using hv)
    ·cases hd
   ·cases hd
  ·cases hd
end
section
variable {bo : Bool} {ρ : Rho} {H : List TOb}
theorem qlo:∀(os:Rho) (l:List Hs) (y:u4 l),qfh bo ρ H os l=some y→os.length=l.length∧(ea l y).length=l.length∧∀(i:Nat) o,os[i]? =some o→∃(hs:Hs) (xi:hs.den),hs.dec bo ρ H o=some xi∧(ea l y)[i]? =some (hs.enc xi)
 |[],[],y,h=>⟨rfl,rfl,fun i o ho=>by simp at ho⟩
 |[],p::l,y,h=>by simp[qfh]at h
 |o::os,[],y,h=>by simp[qfh]at h
 |o::os,p::l,y,h=>by
  unfold qfh at h;split at h
  ·rename_i x hx;split at h
   ·rename_i y' hy;cases h;obtain⟨h1,h2,h3⟩:=qlo os l y' hy;refine⟨by simp[h1],by simp[ea,h2],fun i o' ho=> ?_⟩;cases i with
    |zero=>
     simp at ho;subst ho;exact⟨p,x,hx,by simp[ea]⟩
    |succ i=>
     obtain⟨hs,xi,e1,e2⟩:=h3 i o' (by simpa using ho);exact⟨hs,xi,e1,by simpa[ea]using e2⟩
   ·cases h
  ·cases h
theorem q5h:∀{a b:List TypeId},q7l a b=true→a=b
 |[],[],_=>rfl
 |[],b::m,h=>by simp[q7l]at h
 |a::l,[],h=>by simp[q7l]at h
 |a::l,b::m,h=>by
  simp only[q7l,Bool.and_eq_true]at h;rw[ar h.1,q5h h.2]
theorem Hs.dec_cases{hs:Hs}{o:Option Nat}{xi:hs.den}(h:hs.dec bo ρ H o=some xi):
  (o=none∧∃ty md its t,je7 md=true∧hs.enc xi= .arr ty md its t [])∨
  (∃tg ty md md' its t xs,o=some tg∧H[tg]? =some (.arr ty md' its t xs)∧q0v md md' =true∧hs.enc xi= .arr ty md its t xs)∨
  (∃tg ty sz n l cs x,o=some tg∧H[tg]? =some (.cs ty sz n cs)∧ShL.dec bo ρ H l cs=some x∧0<n∧hs.enc xi= .cs ty sz n (l.enc x))∨
  (∃tg kt vt es,o=some tg∧H[tg]? =some (.mp kt vt es)∧hs.enc xi= .mp kt vt es)∨
  (∃tg kt u ety es,o=some tg∧H[tg]? =some (.mo kt u ety es none)∧hs.enc xi= .mo kt u ety es none):=by
 cases hs with
 |arr ty md its t=>
  unfold Hs.dec at h;simp only[]at h;split at h
  ·obtain⟨hb,h⟩:=ah h;cases h;exact .inl ⟨rfl,ty,md,its,t,hb,rfl⟩
  ·rename_i tg;split at h
   ·rename_i ty' md' its' t' xs hov;split at h
    ·rename_i he _;obtain⟨hb,h⟩:=ah h;subst he;cases h;simp only[Bool.and_eq_true]at hb;have e1:=ar hb.1.1;have e2:=q5h hb.2;subst e1;subst e2;exact .inr (.inl ⟨tg,_,md,md',_,_,xs,rfl,hov,hb.1.2,rfl⟩)
    ·cases h
   ·cases h
 |cs ty sz n l=>
  unfold Hs.dec at h;simp only[]at h;split at h
  ·cases h
  ·rename_i tg;split at h
   ·rename_i ty' sz' n' ws hov;obtain⟨hb,h⟩:=ah h;simp only[Bool.and_eq_true]at hb;have e1:=ar hb.1.1.1;have e2:=ar hb.1.1.2;have e3:=ar hb.1.2;subst e1;subst e2;subst e3;exact .inr (.inr (.inl ⟨tg,_,_,_,l,ws,xi,rfl,hov,h,dg hb.2,rfl⟩))
   ·cases h
 |mp kt vt=>
  unfold Hs.dec at h;simp only[]at h;split at h
  ·cases h
  ·rename_i tg;split at h
   ·rename_i kt' vt' es hov;split at h
    ·rename_i h1 h2 _ _;subst h1;subst h2;cases h;exact .inr (.inr (.inr (.inl ⟨tg,_,_,es,rfl,hov,rfl⟩)))
    ·cases h
   ·cases h
 |mo kt u ety=>
  unfold Hs.dec at h;simp only[]at h;split at h
  ·cases h
  ·rename_i tg;split at h
   ·rename_i kt' u' ety' es hov;split at h
    ·rename_i h1 h2 _ _;obtain⟨hb,h⟩:=ah h;have e1:=ar hb;subst e1;subst h1;subst h2;cases h;exact .inr (.inr (.inr (.inr ⟨tg,_,_,_,es,rfl,hov,rfl⟩)))
    ·cases h
   ·cases h
end
end Go.K
