/-
  A typed machine over the model's memory (part KD). No program is named.
-/
import Derived.Test.YtdhfhpdadbopkaaGreatZ3KC
set_option linter.all false
namespace Go.K
open Go.M Go.RowKit
structure Ext (s s' : TS) : Prop where
 H : s.H = s'.H
 S : ∀ t, cw s.S t = cw s'.S t
theorem Ext.refl(s:TS):Ext s s:=⟨rfl,fun _=>rfl⟩
theorem Ext.symm{s s' :TS}(h:Ext s s'):Ext s' s:=⟨h.H.symm,fun t=>(h.S t).symm⟩
theorem Ext.trans{s s' s'' :TS}(h:Ext s s')(h' :Ext s' s''):Ext s s'' :=⟨h.H.trans h'.H,fun t=>(h.S t).trans (h'.S t)⟩
theorem Ext.ap{s s' :TS}(h:Ext s s')(x:St):Ext (s.ap x) (s'.ap x):=by
 refine⟨by simp only[TS.ap,h.H],fun t=> ?_⟩;cases x with
 |sb θ=>simp only[TS.ap,sAp,i7,h.S]
 |set t o=>exact h.S _
 |new t o=>exact h.S _
theorem Ext.aps{s s' :TS}(h:Ext s s'):∀δ:List St,Ext (s.aps δ) (s'.aps δ)
 |[]=>h
 |x::δ=>Ext.aps (h.ap x) δ
theorem ot{S:List (Nat×TV)}{d:Option Tmp}{v:TV}{t:Nat}:cw (qyp S d v) t=if d=some t then v else cw S t:=by
 cases d with
 |none=>rfl
 |some d=>simp only[qyp,qdy,Option.some.injEq]
theorem yx(s:TS)(d:Option Tmp)(v:TV):s.put d v=⟨qyp s.S d v,s.H⟩:=by cases d<;>rfl
theorem Ext.put{s s' :TS}(h:Ext s s')(d:Option Tmp)(v:TV):Ext (s.put d v) (s'.put d v):=by
 rw[yx,yx];exact⟨h.H,fun t=>by simp only[ot,h.S]⟩
section
variable {U : Nat → Prop} {w0 : World} {σ0 : Pl} {K : Nat → Bool} {N : Nat}
theorem fy.ext{s s' :TS}(h:Ext s s'){a:Act}{w:World}{σ:Pl}(hr:fy U w0 σ0 K N s a w σ):fy U w0 σ0 K N s' a w σ:=by
 have e:cw s.S=cw s'.S:=funext h.S;show ARel _ _ _ _ _ _ _ _ _ _;rw[←e,←h.H];exact hr
end
theorem jd3{N:Nat}{S S' :List (Nat×TV)}(h:∀t,cw S t=cw S' t):evT N S=evT N S' :=by
 funext x;cases x with
 |tmp t=>simp only[evT,rd,h]
 |_=>rfl
mutual
def Wk:TV→TV→Prop
 |_, .any=>True
 | .fn f l, .fn g m=>f=g∧WkL l m
 | .agg l, .agg m=>WkL l m
 | .tup l, .tup m=>WkL l m
 | .cond c a, .cond c' b=>c=c' ∧Wk a b
 | .nl a b, .nl c d=>a=c∧Wk b d
 |a,b=>a=b
def WkL:List TV→List TV→Prop
 |[],[]=>True
 |a::l,b::m=>Wk a b∧WkL l m
 |_,_=>False
end
mutual
theorem Wk.vr{G:Gr}:∀(A B:TV) (v:Value),Wk A B→VR G A v→VR G B v
 |A, .any,v,_,_=>trivial
 | .fn f l, .fn g m,v,h,hv=>by
  obtain⟨rfl,h⟩:=h;obtain⟨vs,hl,hc⟩:=hv;exact⟨vs,hl,WkL.vr l m vs h hc⟩
 | .agg l, .agg m,v,h,hv=>by
  obtain⟨vs,hl,hc,h1⟩:=hv;exact⟨vs,hl,WkL.vr l m vs h hc,h1⟩
 | .tup l, .tup m,v,h,hv=>by
  obtain⟨vs,hl,hc⟩:=hv;exact⟨vs,hl,WkL.vr l m vs h hc⟩
 | .cond c a, .cond c' b,v,h,hv=>by
  obtain⟨rfl,h⟩:=h;unfold VR at hv⊢;split
  ·rename_i hc;rw[if_pos hc]at hv;exact Wk.vr a b v h hv
  ·rename_i hc;rw[if_neg hc]at hv;exact hv
 | .nl a b, .nl c d,v,h,hv=>by
  obtain⟨rfl,h⟩:=h;exact⟨Wk.vr b d v h hv.1,hv.2⟩
 |A, .int k n,v,h,hv=>by cases A<;>simp only[Wk]at h<;>first|(cases h;done)|(cases h;exact hv)|(rw[h]at hv;exact hv)
 |A, .bool b,v,h,hv=>by cases A<;>simp only[Wk]at h<;>first|(cases h;done)|(cases h;exact hv)|(rw[h]at hv;exact hv)
 |A, .val u,v,h,hv=>by cases A<;>simp only[Wk]at h<;>first|(cases h;done)|(cases h;exact hv)|(rw[h]at hv;exact hv)
 |A, .e0,v,h,hv=>by cases A<;>simp only[Wk]at h<;>first|(cases h;done)|(cases h;exact hv)|(rw[h]at hv;exact hv)
 |A, .sl fr t xs,v,h,hv=>by cases A<;>simp only[Wk]at h<;>first|(cases h;done)|(cases h;exact hv)|(rw[h]at hv;exact hv)
 |A, .rptr fr t xs i f,v,h,hv=>by cases A<;>simp only[Wk]at h<;>first|(cases h;done)|(cases h;exact hv)|(rw[h]at hv;exact hv)
 |A, .own T,v,h,hv=>by cases A<;>simp only[Wk]at h<;>first|(cases h;done)|(cases h;exact hv)|(rw[h]at hv;exact hv)
 |A, .ownS T off n,v,h,hv=>by cases A<;>simp only[Wk]at h<;>first|(cases h;done)|(cases h;exact hv)|(rw[h]at hv;exact hv)
 |A, .mp T,v,h,hv=>by cases A<;>simp only[Wk]at h<;>first|(cases h;done)|(cases h;exact hv)|(rw[h]at hv;exact hv)
 |A, .ptr T i f,v,h,hv=>by cases A<;>simp only[Wk]at h<;>first|(cases h;done)|(cases h;exact hv)|(rw[h]at hv;exact hv)
theorem WkL.vr{G:Gr}:∀(l m:List TV) (vs:List Value),WkL l m→jr G l vs→jr G m vs
 |[],[],vs,_,hv=>hv
 |a::l,b::m,vs,h,hv=>by
  obtain⟨u,r,rfl,h1,h2⟩:=hv;exact⟨u,r,rfl,Wk.vr a b u h.1 h1,WkL.vr l m r h.2 h2⟩
 |[],b::m,vs,h,_=>h.elim
 |a::l,[],vs,h,_=>h.elim
end
mutual
theorem Wk.refl:∀(A:TV),Wk A A
 | .any=>trivial
 | .fn f l=>⟨rfl,WkL.refl l⟩
 | .agg l=>WkL.refl l
 | .tup l=>WkL.refl l
 | .cond c a=>⟨rfl,Wk.refl a⟩
 | .nl _ a=>⟨rfl,Wk.refl a⟩
 | .int _ _=>rfl
 | .bool _=>rfl
 | .val _=>rfl
 | .e0=>rfl
 | .sl _ _ _=>rfl
 | .rptr _ _ _ _ _=>rfl
 | .own _=>rfl
 | .ownS _ _ _=>rfl
 | .ptr _ _ _=>rfl
 | .mp _=>rfl
theorem WkL.refl:∀(l:List TV),WkL l l
 |[]=>trivial
 |a::l=>⟨Wk.refl a,WkL.refl l⟩
end
mutual
theorem Wk.kill{θ:TG→Ac}(hθ:∀T,θ T= .id∨θ T= .kill):∀(A:TV),Wk A (A.sb θ)
 | .any=>trivial
 | .fn f l=>⟨rfl,WkL.kill hθ l⟩
 | .agg l=>WkL.kill hθ l
 | .tup l=>WkL.kill hθ l
 | .cond c a=>⟨rfl,Wk.kill hθ a⟩
 | .nl _ a=>⟨rfl,Wk.kill hθ a⟩
 | .int _ _=>rfl
 | .bool _=>rfl
 | .val _=>rfl
 | .e0=>rfl
 | .sl _ _ _=>rfl
 | .rptr _ _ _ _ _=>rfl
 | .own T=>by rcases hθ T with e|e<;>simp[TV.sb,e,Wk]
 | .ownS T _ _=>by rcases hθ T with e|e<;>simp[TV.sb,e,Wk]
 | .mp T=>by rcases hθ T with e|e<;>simp[TV.sb,e,Wk]
 | .ptr T _ _=>by rcases hθ T with e|e<;>simp[TV.sb,e,Wk]
theorem WkL.kill{θ:TG→Ac}(hθ:∀T,θ T= .id∨θ T= .kill):∀(l:List TV),WkL l (TV.sbL θ l)
 |[]=>trivial
 |a::l=>⟨Wk.kill hθ a,WkL.kill hθ l⟩
end
theorem qfe{a:Ac}(h:a.isId=true):a= .id:=by cases a<;>simp_all[Ac.isId]
mutual
theorem Wk.sb{θ:TG→Ac}:∀(A B:TV),Wk A B→B.all (fun T=>(θ T).isId)=true→Wk (A.sb θ) B
 |A, .any,_,_=>by cases A<;>first|trivial|(simp only[TV.sb];first|trivial|(split<;>trivial))
 | .fn f l, .fn g m,h,ha=>⟨h.1,WkL.sb l m h.2 ha⟩
 | .agg l, .agg m,h,ha=>WkL.sb l m h ha
 | .tup l, .tup m,h,ha=>WkL.sb l m h ha
 | .cond c a, .cond c' b,h,ha=>⟨h.1,Wk.sb a b h.2 ha⟩
 | .nl _ a, .nl _ b,h,ha=>⟨h.1,Wk.sb a b h.2 ha⟩
 |A, .int k n,h,ha=>by cases A<;>simp only[Wk]at h<;>first|(cases h;done)|exact h
 |A, .bool b,h,ha=>by cases A<;>simp only[Wk]at h<;>first|(cases h;done)|exact h
 |A, .val u,h,ha=>by cases A<;>simp only[Wk]at h<;>first|(cases h;done)|exact h
 |A, .e0,h,ha=>by cases A<;>simp only[Wk]at h<;>first|(cases h;done)|trivial
 |A, .sl fr t xs,h,ha=>by cases A<;>simp only[Wk]at h<;>first|(cases h;done)|exact h
 |A, .rptr fr t xs i f,h,ha=>by cases A<;>simp only[Wk]at h<;>first|(cases h;done)|exact h
 |A, .own T,h,ha=>by cases A<;>simp only[Wk]at h<;>first|(cases h;done)|(cases h;simp only[TV.all]at ha;simp only[TV.sb,qfe ha,Wk])
 |A, .ownS T off n,h,ha=>by cases A<;>simp only[Wk]at h<;>first|(cases h;done)|(cases h;simp only[TV.all]at ha;simp only[TV.sb,qfe ha,Wk])
 |A, .mp T,h,ha=>by cases A<;>simp only[Wk]at h<;>first|(cases h;done)|(cases h;simp only[TV.all]at ha;simp only[TV.sb,qfe ha,Wk])
 |A, .ptr T i f,h,ha=>by cases A<;>simp only[Wk]at h<;>first|(cases h;done)|(cases h;simp only[TV.all]at ha;simp only[TV.sb,qfe ha,Wk])
theorem WkL.sb{θ:TG→Ac}:∀(l m:List TV),WkL l m→TV.allL (fun T=>(θ T).isId) m=true→WkL (TV.sbL θ l) m
 |[],[],_,_=>trivial
 |a::l,b::m,h,ha=>by
  simp only[TV.allL,Bool.and_eq_true]at ha;exact⟨Wk.sb a b h.1 ha.1,WkL.sb l m h.2 ha.2⟩
 |[],b::m,h,_=>h.elim
 |a::l,[],h,_=>h.elim
end
mutual
theorem q8t{θ:TG→Ac}:∀(A:TV),A.all (fun T=>(θ T).isId)=true→A.sb θ=A
 | .any,_=>rfl
 | .fn f l,h=>by simp only[TV.sb,qnk l h]
 | .agg l,h=>by simp only[TV.sb,qnk l h]
 | .tup l,h=>by simp only[TV.sb,qnk l h]
 | .cond c a,h=>by simp only[TV.sb,q8t a h]
 | .nl _ a,h=>by simp only[TV.sb,q8t a h]
 | .int _ _,_=>rfl
 | .bool _,_=>rfl
 | .val _,_=>rfl
 | .e0,_=>rfl
 | .sl _ _ _,_=>rfl
 | .rptr _ _ _ _ _,_=>rfl
 | .own T,h=>by simp only[TV.all]at h;simp only[TV.sb,qfe h]
 | .ownS T _ _,h=>by simp only[TV.all]at h;simp only[TV.sb,qfe h]
 | .ptr T _ _,h=>by simp only[TV.all]at h;simp only[TV.sb,qfe h]
 | .mp T,h=>by simp only[TV.all]at h;simp only[TV.sb,qfe h]
theorem qnk{θ:TG→Ac}:∀(l:List TV),TV.allL (fun T=>(θ T).isId) l=true→TV.sbL θ l=l
 |[],_=>rfl
 |a::l,h=>by
  simp only[TV.allL,Bool.and_eq_true]at h;simp only[TV.sbL,q8t a h.1,qnk l h.2]
end
theorem jep{θ:TG→Ac}(o:TOb)(h:o.all (fun T=>(θ T).isId)=true):o.sb θ=o:=by
 cases o with
 |cs ty sz n l=>simp only[TOb.sb,qnk l h]
 |_=>rfl
theorem q6o{p:TG→Bool}:∀{H:List TOb},q6n p H=true→∀(t:Nat) o,H[t]? =some o→o.all p=true
 |[],_,t,o,h=>by simp at h
 |a::l,hp,t,o,h=>by
  simp only[q6n,Bool.and_eq_true]at hp;cases t with
  |zero=>simp at h;subst h;exact hp.1
  |succ t=>exact q6o hp.2 t o (by simpa using h)
theorem jeo{θ:TG→Ac}:∀(H:List TOb),q6n (fun T=>(θ T).isId) H=true→dk θ H=H
 |[],_=>rfl
 |o::l,h=>by
  simp only[q6n,Bool.and_eq_true]at h;simp only[dk,jep o h.1,jeo l h.2]
theorem jan{k:Nat}:∀{l:List Nat},s7 k l=true↔k∈l
 |[]=>by simp[s7]
 |a::l=>by
  unfold s7;cases e:Nat.beq a k with
  |true=>simp[bc e]
  |false=>
   have:a≠k:=fun e' =>by rw[e',Nat.beq_refl]at e;cases e
   simp only[cond_false,List.mem_cons,jan (l:=l)];exact⟨.inr,fun h=>h.elim (fun e' =>absurd e'.symm this) id⟩
theorem q0z{k:Nat}{l:List Nat}:s7 k l=false↔k∉l:=by
 rw[←jan (l:=l)];cases s7 k l<;>simp
theorem jia(z:List Nat)(T:TG):jae z T= .id∨jae z T= .kill:=by
 cases T with
 |o t=>simp only[jae];cases s7 t z<;>simp
 |r t i f=>simp only[jae];cases s7 t z<;>simp
theorem qbu(z:List Nat)(A:TV):Wk A (qi5 z A):=by
 cases z with
 |nil=>exact Wk.refl A
 |cons a z=>exact Wk.kill (jia _) A
theorem jbp(z:List Nat):∀(H:List TOb) (k t:Nat) ob,(qxw z k H)[t]? =some ob→ob= .gone∨(H[t]? =some ob∧(k+t)∉z)
 |[],k,t,ob,h=>by simp[qxw]at h
 |o::l,k,0,ob,h=>by
  simp only[qxw,List.getElem?_cons_zero,Option.some.injEq]at h;cases hb:s7 k z with
  |true=>rw[hb]at h;exact .inl h.symm
  |false=>
   rw[hb]at h;exact .inr ⟨by simpa using h,q0z.1 hb⟩
 |o::l,k,t+1,ob,h=>by
  simp only[qxw,List.getElem?_cons_succ]at h;have:=jbp z l (k+1) t ob h;rw[show k+1+t=k+(t+1) by omega]at this;simpa using this
theorem q6h(z:List Nat):∀(H:List TOb) (k:Nat),(qxw z k H).length=H.length
 |[],_=>rfl
 |o::l,k=>by simp[qxw,q6h z l]
theorem jbo{z:List Nat}{H:List TOb}{t:Nat}{ob:TOb}(h:(qpl z H)[t]? =some ob):ob= .gone∨(H[t]? =some ob∧t∉z):=by
 cases z with
 |nil=>exact .inr ⟨h,by simp⟩
 |cons a z=>simpa using jbp (a::z) H 0 t ob h
theorem qwi(z:List Nat)(H:List TOb):(qpl z H).length=H.length:=by
 cases z with
 |nil=>rfl
 |cons a z=>exact q6h _ H 0
theorem q1x{t:Nat}:∀{k n:Nat},t∈places n k↔n≤t∧t<n+k
 |0,n=>by simp only[places,List.not_mem_nil,false_iff];omega
 |k+1,n=>by
  simp only[places,List.mem_cons,q1x (k:=k)];omega
def qhj:Nat→List TOb→List TOb→List TOb
 |_,[],H=>H
 |n,o::l,H=>qhj (n+1) l (H.set n o)
theorem qa2:∀(l:List TOb) (n:Nat) (H:List TOb),(qhj n l H).length=H.length
 |[],_,_=>rfl
 |o::l,n,H=>by simp[qhj,qa2 l]
theorem qb6:∀(l:List TOb) (n:Nat) (H:List TOb),n+l.length≤H.length→∀t,(qhj n l H)[t]? =if n≤t∧t<n+l.length then l[t-n]? else H[t]?
 |[],n,H,_,t=>by simp only[qhj,List.length_nil];rw[if_neg (by omega)]
 |o::l,n,H,h,t=>by
  simp only[List.length_cons]at h;simp only[qhj,List.length_cons];rw[qb6 l (n+1) (H.set n o) (by simp;omega) t];by_cases e:t=n
  ·subst e;rw[if_neg (by omega),if_pos (by omega),List.getElem?_set_self (by omega)];simp
  ·rw[List.getElem?_set_ne (Ne.symm e)];by_cases h1:n+1≤t∧t<n+1+l.length
   ·rw[if_pos h1,if_pos (by omega),show t-n=(t-(n+1))+1 by omega,List.getElem?_cons_succ]
   ·rw[if_neg h1,if_neg (by omega)]
theorem q1g:∀{δ:List St} {n:Nat} {obs:List TOb},qci n δ=some obs→∀t o,St.new t o∈δ→n≤t∧t<n+obs.length
 |[],n,obs,h,t,o,hm=>by simp at hm
 | .new t' o' ::δ,n,obs,h,t,o,hm=>by
  simp only[qci]at h;obtain⟨hb,h⟩:=ak h;split at h
  ·rename_i r hr;cases h;have:=bc hb;rcases List.mem_cons.1 hm with e|hm
   ·cases e;simp;omega
   ·have:=q1g hr t o hm;simp;omega
  ·cases h
 | .sb θ::δ,n,obs,h,t,o,hm=>by simp[qci]at h
 | .set t' o' ::δ,n,obs,h,t,o,hm=>by simp[qci]at h
theorem q9m:∀{δ:List St} {n:Nat} {obs:List TOb} (s:TS),qci n δ=some obs→n+obs.length≤s.H.length→s.aps δ=⟨s.S,qhj n obs s.H⟩
 |[],n,obs,s,h,_=>by simp only[qci,Option.some.injEq]at h;subst h;rfl
 | .new t' o' ::δ,n,obs,s,h,hl=>by
  simp only[qci]at h;obtain⟨hb,h⟩:=ak h;split at h
  ·rename_i r hr;cases h;have:=bc hb;subst this;simp only[List.length_cons]at hl;have e:s.ap (.new t' o')=⟨s.S,s.H.set t' o'⟩:=by
    simp only[TS.ap,sAp,hAp,fw];rw[show Nat.blt t' s.H.length=true by simp[Nat.blt_eq];omega];rfl
   show(s.ap (.new t' o')).aps δ=_;rw[e,q9m _ hr (by simp;omega)];rfl
  ·cases h
 | .sb θ::δ,n,obs,s,h,_=>by simp[qci]at h
 | .set t' o' ::δ,n,obs,s,h,_=>by simp[qci]at h
end Go.K
namespace Go.K
open Go.M Go.RowKit
theorem jeg{l:List Oper}{i:Nat}{o:Oper}(h:l[i]? =some o):qu7 l i=onN o:=by simp only[qu7,h,onN]
theorem jai{i:Nat}:∀{l:List Nat},q5n i l=true→∀k∈l,k<i
 |[],_,k,h=>by simp at h
 |a::l,hl,k,h=>by
  unfold q5n at hl;cases hb:Nat.blt a i with
  |false=>rw[hb]at hl;cases hl
  |true=>
   rw[hb]at hl;rcases List.mem_cons.1 h with rfl|h
   ·exact fp hb
   ·exact jai hl k h
theorem jdh{c6:List Nat}:∀{l:List Oper} {i0:Nat},qxu c6 i0 l=true→∀(j:Nat) o,l[j]? =some o→c6.getD (i0+j) 0=qxt c6 (onN o)∧∀k∈onN o,k<i0+j
 |[],_,_,j,o,h=>by simp at h
 |a::l,i0,ht,j,o,h=>by
  unfold qxu at ht;obtain⟨hb,ht⟩:(Nat.beq (c6.getD i0 0) (qxt c6 (onN a))&&q5n i0 (onN a))=true∧qxu c6 (i0+1) l=true:=by
   cases hb:(Nat.beq (c6.getD i0 0) (qxt c6 (onN a))&&q5n i0 (onN a))with
   |false=>rw[hb]at ht;cases ht
   |true=>rw[hb]at ht;exact⟨rfl,ht⟩
  simp only[Bool.and_eq_true]at hb;cases j with
  |zero=>
   simp at h;subst h;exact⟨bc hb.1,jai hb.2⟩
  |succ j=>
   have:=jdh ht j o (by simpa using h);rw[show i0+(j+1)=i0+1+j by omega];exact this
theorem q6g{c6:List Nat}{j:Nat}:∀{l:List Nat},Nat.testBit (qxt c6 l) j=true→∃k∈l,j=k∨Nat.testBit (c6.getD k 0) j=true
 |[],h=>by simp[qxt]at h
 |a::l,h=>by
  have h' :Nat.testBit (((1<<<a)|||c6.getD a 0)|||qxt c6 l) j=true:=h;rw[Nat.testBit_or,Nat.testBit_or,Bool.or_eq_true,Bool.or_eq_true]at h';rcases h' with(h' |h')|h'
  ·rw[Nat.one_shiftLeft,Nat.testBit_two_pow,decide_eq_true_eq]at h';exact⟨a,List.mem_cons_self, .inl h'.symm⟩
  ·exact⟨a,List.mem_cons_self, .inr h'⟩
  ·obtain⟨k,hk,hj⟩:=q6g h';exact⟨k,List.mem_cons_of_mem _ hk,hj⟩
theorem jg0{c6:List Nat}{l:List Oper}(ht:qxu c6 0 l=true){D:Nat→Bool}(hcl:qzs l D):∀(i:Nat) o,l[i]? =some o→(∀k∈qu7 l i,D k=true)→∀j,inW c6 j i=true→D j=true:=by
 intro i
 induction i using Nat.strongRecOn with
 |_ i ih=>
  intro o ho hon j hj;obtain⟨h1,h2⟩:=jdh ht i o ho;rw[Nat.zero_add]at h1 h2;unfold inW at hj;rw[h1]at hj;obtain⟨k,hk,hjk⟩:=q6g hj;rw[jeg ho]at hon;have hDk:=hon k hk;rcases hjk with rfl|hjk
  ·exact hDk
  ·have hlt:=h2 k hk;have hil:i<l.length:=(List.getElem?_eq_some_iff.1 ho).1;exact ih k hlt l[k] (List.getElem?_eq_getElem (by omega)) (fun m hm=>hcl k hDk m hm) j hjk
theorem qzj{c6:List Nat}{l:List Oper}(ht:qxu c6 0 l=true){D:Nat→Bool}(hcl:qzs l D){i:Nat}{o:Oper}(ho:l[i]? =some o)(hD:D i=true){j:Nat}(hj:inW c6 j i=true):D j=true:=
 jg0 ht hcl i o ho (fun k hk=>hcl i hD k hk) j hj
theorem jdv{a b:Bool}(h:(bif a then b else false)=true):a=true∧b=true:=by cases a<;>simp_all
theorem q5y{ops:List Oper}{c6 rs:List Nat}{i:Nat}{o:Oper}:∀{l:List Oper} {k0:Nat},q7u ops c6 rs i o k0 l=true→∀(j:Nat) o',l[j]? =some o' →jeh ops c6 rs i o (k0+j) o' =true
 |[],_,_,j,o',h=>by simp at h
 |a::l,k0,hp,j,o',h=>by
  unfold q7u at hp;obtain⟨h1,h2⟩:=jdv hp;cases j with
  |zero=>simp at h;subst h;exact h1
  |succ j=>
   rw[show k0+(j+1)=k0+1+j by omega];exact q5y h2 j o' (by simpa using h)
theorem q1j{ops:List Oper}{c6 rs:List Nat}:∀{l:List Oper} {i0:Nat},qzp ops c6 rs i0 l=true→∀(i k:Nat) o o',i<k→l[i]? =some o→l[k]? =some o' →jeh ops c6 rs (i0+i) o (i0+k) o' =true
 |[],_,_,i,k,o,o',_,h,_=>by simp at h
 |a::l,i0,hp,i,k,o,o',hik,h,h' =>by
  unfold qzp at hp;obtain⟨h1,h2⟩:=jdv hp;cases k with
  |zero=>omega
  |succ k=>
   cases i with
   |zero=>
    simp at h;subst h;have:=q5y h1 k o' (by simpa using h');rw[show i0+(k+1)=i0+1+k by omega];exact this
   |succ i=>
    have:=q1j h2 i k o o' (by omega) (by simpa using h) (by simpa using h');rw[show i0+(i+1)=i0+1+i by omega,show i0+(k+1)=i0+1+k by omega];exact this
theorem qdx{ops:List Oper}{o o' :Oper}(h:q5d ops o o' =false):(∀d,o.dst=some d→d∉usN ops o' ∧o'.dst≠some d)∧∀d,o'.dst=some d→d∉usN ops o:=by
 simp only[q5d,Bool.or_eq_false_iff]at h;refine⟨fun d hd=> ?_,fun d hd=> ?_⟩
 ·rw[hd]at h;simp only[Bool.or_eq_false_iff]at h;refine⟨q0z.1 h.1.1,fun e=> ?_⟩;have:=h.1.2;rw[dN,e]at this;simp only[Nat.beq_refl]at this;cases this
 ·rw[hd]at h;exact q0z.1 h.2
structure Facts (ops : List Oper) (c6 rs : List Nat) : Prop where
 tb : qxu c6 0 ops = true
 aa : ∀ i k o o', i < k → ops[i]? = some o → ops[k]? = some o' → s7 i rs = false → inW c6 i k = false → q5d ops o o' = false
 rr : ∀ i k o o', i < k → ops[i]? = some o → ops[k]? = some o' → s7 i rs = true → s7 k rs = true → inW c6 i k = true
 ra : ∀ i k o o', i < k → ops[i]? = some o → ops[k]? = some o' → s7 i rs = true → s7 k rs = false → q5d ops o o' = false
theorem facts{ops:List Oper}{c6 rs:List Nat}(h:jhm ops c6 rs=true):Facts ops c6 rs:=by
 simp only[jhm,Bool.and_eq_true]at h;refine⟨h.1,fun i k o o' hik ho ho' hi hw=> ?_,fun i k o o' hik ho ho' hi hk=> ?_,fun i k o o' hik ho ho' hi hk=> ?_⟩
 all_goals
  have hp:=q1j h.2 i k o o' hik ho ho';rw[Nat.zero_add,Nat.zero_add]at hp;unfold jeh at hp
 ·rw[hi]at hp;simpa[hw]using hp
 ·rw[hi,hk]at hp;exact hp
 ·rw[hi,hk]at hp;simpa using hp
section
variable {Rf : Type}
def qcd(S0:List (Nat×TV)):List En→List (Nat×TV)
 |[]=>S0
 |e::l=>qyp (qcd S0 l) e.dst e.v
def uw(H0:List TOb):List En→List TOb
 |[]=>H0
 |e::l=>uw H0 l++e.news
def Wn(N:Nat)(l:List Oper)(o:Oper)(S:List (Nat×TV))(b:Bool):Prop:=
 match o.guard with
 |none=>b=true
 |some g=>∃d,qq6 l g.1=some d∧d<N∧((∃c,cw S d= .bool c∧(c==g.2)=b)∨(cw S d= .undef∧b=false))
structure EnOK (X : Ctx Rf) (l : List Oper) (c6 rs τ : List Nat) (S0 : List (Nat × TV)) (H0 : List TOb) (recs : List En) (e : En) (o : Oper) : Prop where
 at_ : l[e.i]? = some o
 dst : e.dst = o.dst
 free : s7 e.i rs = false
 wk : e.wk = uk o.op
 n : e.n = (uw H0 recs).length
 lt : ∀ e' ∈ recs, e'.i < e.i
 run : (Wn X.N l o (qcd S0 recs) true ∧ e.xs = o.op.operands.toList.map (fun x => qi5 (zR c6 e.i recs) (evT X.N (qcd S0 recs) x)) ∧ HvW o.op e.Hv (qpl (zA c6 rs τ e.i recs) (uw H0 recs)) ∧
     ∃ δ, qqt X o.op (fun x => qi5 (zR c6 e.i recs) (evT X.N (qcd S0 recs) x)) e.Hv rt = some (δ, e.v) ∧ qci e.n δ = some e.news) ∨
   (Wn X.N l o (qcd S0 recs) false ∧ e.v = .undef ∧ e.news = [] ∧ e.Hv = [] ∧ e.xs = [])
def Tr(X:Ctx Rf)(l:List Oper)(c6 rs τ:List Nat)(S0:List (Nat×TV))(H0:List TOb):List En→Prop
 |[]=>True
 |e::recs=>Tr X l c6 rs τ S0 H0 recs∧∃o,EnOK X l c6 rs τ S0 H0 recs e o
def Cov(l:List Oper)(rs:List Nat)(recs:List En)(m:Nat):Prop:=∀j,j<m→j<l.length→s7 j rs=false→∃e∈recs,e.i=j
theorem Wn.ext{N:Nat}{l:List Oper}{o:Oper}{S S' :List (Nat×TV)}{b:Bool}(h:∀t,cw S t=cw S' t)(hw:Wn N l o S b):Wn N l o S' b:=by
 unfold Wn at hw⊢;cases hg:o.guard with
 |none=>rw[hg]at hw;exact hw
 |some g=>
  rw[hg]at hw;obtain⟨d,h1,h2,h3⟩:=hw;simp only[];refine⟨d,h1,h2,?_⟩;rw[←h];exact h3
theorem qpt{R:Type}{N:Nat}{all:List Oper}{o:Oper}{g:Nat×Bool}(hg:o.guard=some g){S:List (Nat×TV)}{run skip:List (Nat×TV)→Option R}{r:R}(h:jhr N all g S run skip=some r):
  ∃S1,(∀t,cw S1 t=cw S t)∧((Wn N all o S true∧run S1=some r)∨(Wn N all o S false∧skip S1=some r)):=by
 unfold jhr at h;unfold Wn;rw[hg];split at h
 ·rename_i d hgd;refine⟨S,fun _=>rfl, .inr ⟨?_,h⟩⟩;unfold jcg at hgd;split at hgd
  ·rename_i d' hd;split at hgd
   ·cases hgd
   ·rename_i e;cases hgd;unfold rd at e;cases hb:Nat.blt d N with
    |false=>rw[hb]at e;cases e
    |true=>rw[hb]at e;exact⟨d,hd,fp hb, .inr ⟨e,rfl⟩⟩
   ·cases hgd
  ·cases hgd
 ·rename_i d b hgd;have hd:qq6 all g.1=some d∧d<N∧cw S d= .bool b:=by
   unfold jcg at hgd;split at hgd
   ·rename_i d' hd;split at hgd
    ·rename_i b' e;cases hgd;unfold rd at e;cases hb:Nat.blt d N with
     |false=>rw[hb]at e;cases e
     |true=>rw[hb]at e;exact⟨hd,fp hb,e⟩
    ·cases hgd
    ·cases hgd
   ·cases hgd
  obtain⟨h1,h2,h3⟩:=hd;have hext:∀b',b=b' →∀t,cw ((d,TV.bool b')::S) t=cw S t:=by
   rintro b' rfl t;rw[qdy];split
   ·rename_i e;rw[←e,h3]
   ·rfl
  obtain⟨g1,g2⟩:=g;simp only[]at h h1⊢;cases g2 with
  |true=>
   simp only[]at h;cases b with
   |true=>exact⟨_,hext true rfl, .inl ⟨⟨d,h1,h2, .inl ⟨true,h3,rfl⟩⟩,h⟩⟩
   |false=>exact⟨_,hext false rfl, .inr ⟨⟨d,h1,h2, .inl ⟨false,h3,rfl⟩⟩,h⟩⟩
  |false=>
   simp only[]at h;cases b with
   |true=>exact⟨_,hext true rfl, .inr ⟨⟨d,h1,h2, .inl ⟨true,h3,rfl⟩⟩,h⟩⟩
   |false=>exact⟨_,hext false rfl, .inl ⟨⟨d,h1,h2, .inl ⟨false,h3,rfl⟩⟩,h⟩⟩
 ·cases h
end
end Go.K
namespace Go.K
open Go.M Go.RowKit
section
variable {R Rf : Type} {X : Ctx Rf} {l : List Oper} {c6 rs τ : List Nat} {S0 : List (Nat × TV)} {H0 : List TOb}
theorem jdq:∀{l:List Bool},ji l→qkx l=true
 |[],_=>rfl
 |c::l,h=>by
  simp only[qkx,Bool.and_eq_true];exact⟨h c List.mem_cons_self,jdq fun d hd=>h d (List.mem_cons_of_mem _ hd)⟩
theorem qf8{S S' :List (Nat×TV)}(h:∀t,cw S t=cw S' t)(d:Option Tmp)(v:TV)(t:Nat):cw (qyp S d v) t=cw (qyp S' d v) t:=by
 simp only[ot,h]
theorem jky{k:List (Nat×TV)→List TOb→List En→Option R}{r:R}:∀(ops:List Oper) (i:Nat) (S:List (Nat×TV)) (recs:List En),l.drop i=ops→Tr X l c6 rs τ S0 H0 recs→(∀e∈recs,e.i<i)→Cov l rs recs i→(∀t,cw S t=cw (qcd S0 recs) t)→
  q8p X l c6 rs τ ops i S (uw H0 recs) recs k=some r→∃recs' S',Tr X l c6 rs τ S0 H0 recs' ∧Cov l rs recs' l.length∧(∀t,cw S' t=cw (qcd S0 recs') t)∧k S' (uw H0 recs') recs' =some r:=by
 intro ops
 induction ops with
 |nil=>
  intro i S recs hd ht hlt hc hS h;have hi:l.length≤i:=by
   have:=congrArg List.length hd;simp at this;omega
  exact⟨recs,S,ht,fun j hj hj' hm=>hc j (by omega) hj' hm,hS,h⟩
 |cons o rest ih=>
  intro i S recs hd ht hlt hc hS h;have hil:i<l.length:=by
   have:=congrArg List.length hd;simp at this;omega
  have hoi:l[i]? =some o:=by
   have:=List.drop_eq_getElem_cons hil;rw[hd]at this;rw[List.getElem?_eq_getElem hil];injection this with h1 h2
   rw[h1]
  have hdr:l.drop (i+1)=rest:=by
   have:=List.drop_eq_getElem_cons hil;rw[hd]at this;injection this with h1 h2
   exact h2.symm
  have hnext:∀(e:En) S',e.i=i→Tr X l c6 rs τ S0 H0 (e::recs)→(∀t,cw S' t=cw (qcd S0 (e::recs)) t)→q8p X l c6 rs τ rest (i+1) S' (uw H0 (e::recs)) (e::recs) k=some r→
    ∃recs' S',Tr X l c6 rs τ S0 H0 recs' ∧Cov l rs recs' l.length∧(∀t,cw S' t=cw (qcd S0 recs') t)∧k S' (uw H0 recs') recs' =some r:=by
   intro e S' hei htr hS' hrun;refine ih (i+1) S' (e::recs) hdr htr (fun e' he' => ?_) (fun j hj hjl hm=> ?_) hS' hrun
   ·rcases List.mem_cons.1 he' with rfl|he'
    ·omega
    ·have:=hlt e' he';omega
   ·by_cases e' :j=i
    ·exact⟨e,List.mem_cons_self,by omega⟩
    ·obtain⟨e1,h1,h2⟩:=hc j (by omega) hjl hm;exact⟨e1,List.mem_cons_of_mem _ h1,h2⟩
  have hop:∀S1,(∀t,cw S1 t=cw (qcd S0 recs) t)→s7 i rs=false→Wn X.N l o (qcd S0 recs) true→opA X c6 rs τ i o S1 (uw H0 recs) recs (fun S' H' recs' =>q8p X l c6 rs τ rest (i+1) S' H' recs' k)=some r→
    ∃recs' S',Tr X l c6 rs τ S0 H0 recs' ∧Cov l rs recs' l.length∧(∀t,cw S' t=cw (qcd S0 recs') t)∧k S' (uw H0 recs') recs' =some r:=by
   intro S1 hS1 hm hw hopA;unfold opA at hopA;rw[jd3 hS1]at hopA;obtain⟨δ,v,hk,hst⟩:=q6f hopA;split at hk
   ·rename_i obs hobs;refine hnext ⟨i,o.dst,o.op.operands.toList.map (fun x=>qi5 (zR c6 i recs) (evT X.N (qcd S0 recs) x)),_,(uw H0 recs).length,obs,v,uk o.op⟩ _ rfl ⟨ht,o,hoi,rfl,hm,rfl,rfl,fun e' he' =>hlt e' he', .inl ⟨hw,rfl,jsw _ _ _ _,δ,hst,hobs⟩⟩ (qf8 hS1 o.dst v) hk
   ·cases hk
  unfold q8p at h;cases hm:s7 i rs with
  |true=>
   rw[hm]at h;exact ih (i+1) S recs hdr ht (fun e he=>by have:=hlt e he;omega) (fun j hj hjl hm' =>by
    by_cases e:j=i
    ·subst e;rw[hm]at hm';cases hm'
    ·exact hc j (by omega) hjl hm') hS h
  |false=>
   rw[hm]at h;simp only[cond_false]at h;split at h
   ·rename_i hg;exact hop S hS hm (by unfold Wn;rw[hg]) h
   ·rename_i g hg;obtain⟨S1,hext,hcase⟩:=qpt hg h;have hS1:∀t,cw S1 t=cw (qcd S0 recs) t:=fun t=>(hext t).trans (hS t)
    rcases hcase with⟨hw,hrun⟩|⟨hw,hrun⟩
    ·exact hop S1 hS1 hm (hw.ext hS) hrun
    ·refine hnext ⟨i,o.dst,[],[],(uw H0 recs).length,[], .undef,uk o.op⟩ _ rfl ⟨ht,o,hoi,rfl,hm,rfl,rfl,fun e' he' =>hlt e' he', .inr ⟨hw.ext hS,rfl,rfl,rfl,rfl⟩⟩ (qf8 hS1 o.dst .undef) ?_;simp only[uw,List.append_nil];exact hrun
structure RE where
 i : Nat
 dst : Option Tmp
 δ : List St
 v : TV
def canR(s:TS):List RE→TS
 |[]=>s
 |e::l=>((canR s l).aps e.δ).put e.dst e.v
structure REOK (X : Ctx Rf) (l : List Oper) (c6 rs : List Nat) (recs : List En) (s : TS) (rest : List RE) (e : RE) (o : Oper) : Prop where
 at_ : l[e.i]? = some o
 dst : e.dst = o.dst
 wr : s7 e.i rs = true
 lt : ∀ e' ∈ rest, e'.i < e.i
 run : (Wn X.N l o (canR s rest).S true ∧ qqt X o.op (fun x => qi5 (zR c6 e.i recs) (evT X.N (canR s rest).S x)) (qpl (zR c6 e.i recs) (canR s rest).H) rt = some (e.δ, e.v) ∧ qop c6 e.i e.δ recs = true) ∨
   (Wn X.N l o (canR s rest).S false ∧ e.δ = [] ∧ e.v = .undef)
def TrR(X:Ctx Rf)(l:List Oper)(c6 rs:List Nat)(recs:List En)(s:TS):List RE→Prop
 |[]=>True
 |e::rest=>TrR X l c6 rs recs s rest∧∃o,REOK X l c6 rs recs s rest e o
def jjd(l:List Oper)(rs:List Nat)(res:List RE)(m:Nat):Prop:=∀j,j<m→j<l.length→s7 j rs=true→∃e∈res,e.i=j
theorem jkz{recs:List En}{s0:TS}{k:TS→Option R}{r:R}:∀(ops:List Oper) (i:Nat) (s:TS) (res:List RE),l.drop i=ops→TrR X l c6 rs recs s0 res→(∀e∈res,e.i<i)→jjd l rs res i→Ext s (canR s0 res)→
  q8s X l c6 rs recs ops i s k=some r→∃res' s',TrR X l c6 rs recs s0 res' ∧jjd l rs res' l.length∧Ext s' (canR s0 res')∧k s' =some r:=by
 intro ops
 induction ops with
 |nil=>
  intro i s res hd ht hlt hc hS h;have hi:l.length≤i:=by
   have:=congrArg List.length hd;simp at this;omega
  exact⟨res,s,ht,fun j hj hj' hm=>hc j (by omega) hj' hm,hS,h⟩
 |cons o rest ih=>
  intro i s res hd ht hlt hc hS h;have hil:i<l.length:=by
   have:=congrArg List.length hd;simp at this;omega
  have hoi:l[i]? =some o:=by
   have:=List.drop_eq_getElem_cons hil;rw[hd]at this;rw[List.getElem?_eq_getElem hil];injection this with h1 h2
   rw[h1]
  have hdr:l.drop (i+1)=rest:=by
   have:=List.drop_eq_getElem_cons hil;rw[hd]at this;injection this with h1 h2
   exact h2.symm
  have hnext:∀(e:RE) s',e.i=i→TrR X l c6 rs recs s0 (e::res)→Ext s' (canR s0 (e::res))→q8s X l c6 rs recs rest (i+1) s' k=some r→
    ∃res' s',TrR X l c6 rs recs s0 res' ∧jjd l rs res' l.length∧Ext s' (canR s0 res')∧k s' =some r:=by
   intro e s' hei htr hS' hrun;refine ih (i+1) s' (e::res) hdr htr (fun e' he' => ?_) (fun j hj hjl hm=> ?_) hS' hrun
   ·rcases List.mem_cons.1 he' with rfl|he'
    ·omega
    ·have:=hlt e' he';omega
   ·by_cases e' :j=i
    ·exact⟨e,List.mem_cons_self,by omega⟩
    ·obtain⟨e1,h1,h2⟩:=hc j (by omega) hjl hm;exact⟨e1,List.mem_cons_of_mem _ h1,h2⟩
  have hop:∀s1,Ext s1 (canR s0 res)→s7 i rs=true→Wn X.N l o (canR s0 res).S true→opR X c6 recs i o s1 (fun s' =>q8s X l c6 rs recs rest (i+1) s' k)=some r→
    ∃res' s',TrR X l c6 rs recs s0 res' ∧jjd l rs res' l.length∧Ext s' (canR s0 res')∧k s' =some r:=by
   intro s1 hS1 hm hw hopR;unfold opR at hopR;rw[jd3 hS1.S,hS1.H]at hopR;obtain⟨δ,v,hk,hst⟩:=q6f hopR;split at hk
   ·rename_i cs hcs;obtain⟨hok,hk⟩:=cl hk;exact hnext ⟨i,o.dst,δ,v⟩ _ rfl ⟨ht,o,hoi,rfl,hm,fun e' he' =>hlt e' he', .inl ⟨hw,hst,qu6 hcs (jdq hok)⟩⟩ ((hS1.aps δ).put o.dst v) hk
   ·cases hk
  unfold q8s at h;cases hm:s7 i rs with
  |false=>
   rw[hm]at h;exact ih (i+1) s res hdr ht (fun e he=>by have:=hlt e he;omega) (fun j hj hjl hm' =>by
    by_cases e:j=i
    ·subst e;rw[hm]at hm';cases hm'
    ·exact hc j (by omega) hjl hm') hS h
  |true=>
   rw[hm]at h;simp only[cond_true]at h;split at h
   ·rename_i hg;exact hop s hS hm (by unfold Wn;rw[hg]) h
   ·rename_i g hg;obtain⟨S1,hext,hcase⟩:=qpt hg h;have hS1:Ext ⟨S1,s.H⟩ (canR s0 res):=⟨hS.H,fun t=>(hext t).trans (hS.S t)⟩;rcases hcase with⟨hw,hrun⟩|⟨hw,hrun⟩
    ·exact hop _ hS1 hm (hw.ext hS.S) hrun
    ·exact hnext ⟨i,o.dst,[], .undef⟩ _ rfl ⟨ht,o,hoi,rfl,hm,fun e' he' =>hlt e' he', .inr ⟨hw.ext hS.S,rfl,rfl⟩⟩ (hS1.put o.dst .undef) hrun
def su(S0:List (Nat×TV))(H0:List TOb)(D:Nat→Bool):List En→TS
 |[]=>⟨S0,H0⟩
 |e::l=>if D e.i=true then⟨qyp (su S0 H0 D l).S e.dst e.v,(su S0 H0 D l).H++e.news⟩else⟨(su S0 H0 D l).S,(su S0 H0 D l).H++List.replicate e.news.length .gone⟩
def stR(D:Nat→Bool)(s:TS):List RE→TS
 |[]=>s
 |e::l=>if D e.i=true then((stR D s l).aps e.δ).put e.dst e.v else stR D s l
theorem qf3(D:Nat→Bool):∀(recs:List En),(su S0 H0 D recs).H.length=(uw H0 recs).length
 |[]=>rfl
 |e::l=>by
  unfold su uw;split<;>simp[qf3 D l]
theorem q3a{D:Nat→Bool}{t:Nat}:∀{recs:List En},(∀e∈recs,e.dst=some t→D e.i=true)→cw (su S0 H0 D recs).S t=cw (qcd S0 recs) t
 |[],_=>rfl
 |e::l,h=>by
  have ih:=q3a (D:=D) (t:=t) (recs:=l) fun e' he' =>h e' (List.mem_cons_of_mem _ he')
  unfold su qcd;split
  ·simp only[ot,ih]
  ·rename_i hd;have:e.dst≠some t:=fun e' =>hd (h e List.mem_cons_self e')
   simp only[ot,if_neg this,ih]
theorem Tr.bnd:∀{recs:List En},Tr X l c6 rs τ S0 H0 recs→∀e∈recs,H0.length≤e.n∧e.n+e.news.length≤(uw H0 recs).length
 |[],_,e,h=>by simp at h
 |e' ::recs,ht,e,h=>by
  obtain⟨ht,o,he⟩:=ht;have hle:H0.length≤(uw H0 recs).length:=by
   clear ht he h
   induction recs with
   |nil=>exact Nat.le_refl _
   |cons a m ih=>simp only[uw,List.length_append];omega
  rcases List.mem_cons.1 h with rfl|h
  ·rw[he.n];simp only[uw,List.length_append];omega
  ·have:=Tr.bnd ht e h;simp only[uw,List.length_append];omega
theorem jdc{D:Nat→Bool}{t:Nat}:∀{recs:List En},Tr X l c6 rs τ S0 H0 recs→(∀e∈recs,e.n≤t→t<e.n+e.news.length→D e.i=true)→(su S0 H0 D recs).H[t]? =(uw H0 recs)[t]?
 |[],_,_=>rfl
 |e::recs,ht,h=>by
  obtain⟨ht,o,he⟩:=ht;have ih:=jdc (D:=D) (t:=t) ht fun e' he' =>h e' (List.mem_cons_of_mem _ he')
  have hl:=qf3 (S0:=S0) (H0:=H0) D recs;unfold su uw;split
  ·simp only[List.getElem?_append,hl,ih]
  ·rename_i hd;rcases Nat.lt_or_ge t (uw H0 recs).length with h1|h1
   ·rw[List.getElem?_append_left (by omega),List.getElem?_append_left h1,ih]
   ·have:¬t<e.n+e.news.length:=fun h2=>hd (h e List.mem_cons_self (by rw[he.n];exact h1) h2)
    rw[he.n]at this;rw[List.getElem?_eq_none (by simp;omega),List.getElem?_eq_none (by simp;omega)]
theorem jbi{D:Nat→Bool}{t:Nat}:∀{recs:List En},Tr X l c6 rs τ S0 H0 recs→∀e∈recs,D e.i=false→e.n≤t→t<e.n+e.news.length→(su S0 H0 D recs).H[t]? =some .gone
 |[],_,e,h,_,_,_=>by simp at h
 |e' ::recs,ht,e,h,hD,h1,h2=>by
  obtain⟨ht,o,he⟩:=ht;have hl:=qf3 (S0:=S0) (H0:=H0) D recs;rcases List.mem_cons.1 h with rfl|h
  ·unfold su;rw[if_neg (by simp[hD])];simp only[];rw[List.getElem?_append_right (by rw[hl,←he.n];exact h1),List.getElem?_replicate,if_pos (by rw[hl,←he.n];omega)]
  ·have ih:=jbi (D:=D) (t:=t) ht e h hD h1 h2;have hb:=(Tr.bnd ht e h).2;unfold su;split<;>(simp only[];rw[List.getElem?_append_left (by omega)];exact ih)
end
end Go.K
namespace Go.K
open Go.M Go.RowKit
section
variable {R Rf : Type} {X : Ctx Rf} {l : List Oper} {c6 rs τ : List Nat} {S0 : List (Nat × TV)} {H0 : List TOb}
def apE(e:En)(s:TS):TS:=⟨qyp s.S e.dst e.v,qhj e.n e.news s.H⟩
theorem Ext.apE{s s' :TS}(h:Ext s s')(e:En):Ext (apE e s) (apE e s'):=⟨by simp only[Go.K.apE,h.H],qf8 h.S e.dst e.v⟩
theorem qwf{n:Nat}{news H Y:List TOb}(h:n+news.length≤H.length):qhj n news (H++Y)=qhj n news H++Y:=by
 apply List.ext_getElem?;intro t;rw[qb6 _ _ _ (by simp;omega)];rcases Nat.lt_or_ge t H.length with h1|h1
 ·rw[List.getElem?_append_left h1,List.getElem?_append_left (by rw[qa2];exact h1),qb6 _ _ _ h]
 ·rw[if_neg (by omega),List.getElem?_append_right h1,List.getElem?_append_right (by rw[qa2];exact h1),qa2]
theorem jgh{news H:List TOb}:qhj H.length news (H++List.replicate news.length .gone)=H++news:=by
 apply List.ext_getElem?;intro t;rw[qb6 _ _ _ (by simp)];rcases Nat.lt_or_ge t H.length with h1|h1
 ·rw[if_neg (by omega),List.getElem?_append_left h1,List.getElem?_append_left h1]
 ·rw[List.getElem?_append_right h1,List.getElem?_append_right h1,List.getElem?_replicate];by_cases h2:t<H.length+news.length
  ·rw[if_pos ⟨h1,h2⟩]
  ·rw[if_neg (by omega),if_neg (by omega),List.getElem?_eq_none (by omega)]
theorem qwg{D D' :Nat→Bool}:∀{recs:List En},(∀e∈recs,D e.i=D' e.i)→su S0 H0 D recs=su S0 H0 D' recs
 |[],_=>rfl
 |e::m,h=>by
  unfold su;rw[h e List.mem_cons_self,qwg fun e' he' =>h e' (List.mem_cons_of_mem _ he')]
theorem qgj{D:Nat→Bool}{i k:Nat}(h:k≠i):rq D i k=D k:=by simp[rq,h]
theorem q9w{D:Nat→Bool}{i:Nat}:rq D i i=true:=by simp[rq]
theorem jew{D:Nat→Bool}:∀{recs:List En},Tr X l c6 rs τ S0 H0 recs→∀e∈recs,D e.i=false→(∀e' ∈recs,e.i<e'.i→D e'.i=true→∀d,e'.dst=some d→e.dst≠some d)→Ext (su S0 H0 (rq D e.i) recs) (apE e (su S0 H0 D recs))
 |[],_,e,h,_,_=>by simp at h
 |e1::recs,ht,e,h,hD,hdst=>by
  obtain⟨ht,o,he⟩:=ht;rcases List.mem_cons.1 h with rfl|h
  ·have hc:su S0 H0 (rq D e.i) recs=su S0 H0 D recs:=qwg fun e' he' =>qgj (by have:=he.lt e' he';omega)
   unfold su;rw[if_pos q9w,if_neg (by simp[hD]),hc];refine⟨?_,fun t=>rfl⟩;simp only[apE];have hn:e.n=(su S0 H0 D recs).H.length:=by rw[qf3,he.n]
   rw[hn,jgh]
  ·have hlt:=he.lt e h;have ih:=jew ht e h hD fun e' he' =>hdst e' (List.mem_cons_of_mem _ he')
   have hb:=(Tr.bnd ht e h).2;have hl:=qf3 (S0:=S0) (H0:=H0) D recs;have e0:rq D e.i e1.i=D e1.i:=qgj (by omega);unfold su;rw[e0];split
   ·rename_i hD1;refine⟨?_,fun t=> ?_⟩
    ·simp only[apE];rw[ih.H,qwf (by omega)];rfl
    ·simp only[apE,ot,ih.S];by_cases h1:e1.dst=some t
     ·have:=hdst e1 List.mem_cons_self hlt hD1 t h1;rw[if_pos h1,if_neg this,if_pos h1]
     ·rw[if_neg h1,if_neg h1]
   ·refine⟨?_,fun t=> ?_⟩
    ·simp only[apE];rw[ih.H,qwf (by omega)];rfl
    ·simp only[apE,ih.S]
theorem q6a{n t:Nat}{news H:List TOb}{o:TOb}(hb:n+news.length≤H.length)(ht:t<n∨n+news.length≤t):(qhj n news H).set t o=qhj n news (H.set t o):=by
 apply List.ext_getElem?;intro t';rw[qb6 _ _ _ (by rw[List.length_set];exact hb)];by_cases h1:t=t'
 ·subst h1;rw[if_neg (by omega)];rcases Nat.lt_or_ge t H.length with h2|h2
  ·rw[List.getElem?_set_self (by rw[qa2];exact h2),List.getElem?_set_self h2]
  ·rw[List.getElem?_eq_none (by rw[List.length_set,qa2];exact h2),List.getElem?_eq_none (by rw[List.length_set];exact h2)]
 ·rw[List.getElem?_set_ne h1,List.getElem?_set_ne h1,qb6 _ _ _ hb]
theorem jnk{e:En}{s:TS}{x:St}(hok:qeo e x=true)(hb:e.n+e.news.length≤s.H.length):Ext ((apE e s).ap x) (apE e (s.ap x))∧e.n+e.news.length≤(s.ap x).H.length:=by
 cases x with
 |sb θ=>
  simp only[qeo,Bool.and_eq_true]at hok;obtain⟨⟨⟨_,_⟩,h3⟩,h4⟩:=hok;refine⟨⟨?_,fun t=> ?_⟩,by simp only[TS.ap,hAp,di];exact hb⟩
  ·simp only[TS.ap,hAp,apE];apply List.ext_getElem?;intro t;rw[iz,qb6 _ _ _ hb,qb6 _ _ _ (by rw[di];exact hb)];split
   ·rw[←iz,jeo _ h3]
   ·rw[iz]
  ·simp only[TS.ap,sAp,apE,i7,ot];split
   ·exact q8t _ h4
   ·rfl
 |set t o=>
  simp only[qeo,Bool.and_eq_true,Bool.or_eq_true]at hok;have ht:t<e.n∨e.n+e.news.length≤t:=hok.1.imp fp x7;refine⟨⟨?_,fun t=>rfl⟩,by simp only[TS.ap,hAp,List.length_set];exact hb⟩;simp only[TS.ap,hAp,apE];exact q6a hb ht
 |new t o=>
  simp only[qeo,Bool.and_eq_true]at hok;have ht:=x7 hok.1;simp only[TS.ap,hAp,fw,apE,qa2];cases hblt:Nat.blt t s.H.length with
  |true=>
   simp only[cond_true];refine⟨⟨?_,fun t=>rfl⟩,by rw[List.length_set];exact hb⟩;exact q6a hb (.inr ht)
  |false=>
   simp only[cond_false];refine⟨⟨?_,fun t=>rfl⟩,by rw[List.length_append];omega⟩;simp only[];rw[qwf hb]
theorem jds{e:En}:∀{δ:List St} {s:TS},tk e δ=true→e.n+e.news.length≤s.H.length→Ext ((apE e s).aps δ) (apE e (s.aps δ))∧e.n+e.news.length≤(s.aps δ).H.length
 |[],s,_,hb=>⟨Ext.refl _,hb⟩
 |x::δ,s,hok,hb=>by
  simp only[tk,Bool.and_eq_true]at hok;obtain⟨h1,h2⟩:=jnk hok.1 hb;obtain⟨h3,h4⟩:=jds hok.2 h2;exact⟨(h1.aps δ).trans h3,h4⟩
theorem jjq{e:En}{s:TS}{d:Option Tmp}{v:TV}(h:∀t,d=some t→e.dst≠some t):Ext ((apE e s).put d v) (apE e (s.put d v)):=by
 rw[yx,yx];refine⟨rfl,fun t=> ?_⟩;simp only[apE,ot];by_cases h1:d=some t
 ·rw[if_pos h1,if_neg (h t h1),if_pos h1]
 ·rw[if_neg h1,if_neg h1]
theorem jsz(s:TS)(d:Option Tmp)(v:TV):(s.put d v).H=s.H:=by cases d<;>rfl
theorem jey{e:En}{D D' :Nat→Bool}{s s' :TS}(hb:e.n+e.news.length≤s.H.length)(he:Ext s' (apE e s)):∀{res:List RE},(∀re∈res,D' re.i=D re.i)→(∀re∈res,D re.i=true→tk e re.δ=true∧∀t,re.dst=some t→e.dst≠some t)→
  Ext (stR D' s' res) (apE e (stR D s res))∧e.n+e.news.length≤(stR D s res).H.length
 |[],_,_=>⟨he,hb⟩
 |re::res,hD,h=>by
  obtain⟨h1,h2⟩:=jey hb he (res:=res) (fun r hr=>hD r (List.mem_cons_of_mem _ hr)) (fun r hr=>h r (List.mem_cons_of_mem _ hr));unfold stR;rw[hD re List.mem_cons_self];split
  ·rename_i hd;obtain⟨h3,h4⟩:=h re List.mem_cons_self hd;obtain⟨h5,h6⟩:=jds h3 h2;refine⟨(((h1.aps re.δ).trans h5).put re.dst re.v).trans (jjq h4),by rw[jsz];exact h6⟩
  ·exact⟨h1,h2⟩
theorem CsW.sb{ob ob' :TOb}{θ:TG→Ac}(h:CsW ob ob')(ha:ob.all (fun T=>(θ T).isId)=true):CsW ob (ob'.sb θ):=by
 obtain⟨ty,sz,n,cs,rfl,h0,⟨cs',rfl,hc⟩|⟨md,its,u,xs,rfl,e1,e2,hc⟩⟩:=h
 ·refine⟨ty,sz,n,cs,rfl,h0, .inl ⟨_,rfl,fun i=> ?_⟩⟩;rcases hc i with e|e
  ·exact .inl e
  ·refine .inr ?_;have e3:TV.sbL θ cs=cs:=qnk cs ha;rw[TV.sbL_at,←e,←TV.sbL_at,e3]
 ·exact⟨ty,sz,n,cs,rfl,h0, .inr ⟨md,its,u,xs,rfl,e1,e2,hc⟩⟩
theorem jhf{v v' :TV}{l:List Bool}(h:jhe v v' =some l)(hl:qkx l=true):v= .any∨v=v' :=by
 unfold jhe at h;split at h
 ·exact .inl rfl
 ·split at h
  ·rename_i e;cases h;subst e;simp only[qkx,Bool.and_true,decide_eq_true_eq]at hl;exact .inr (by rw[hl])
  ·cases h
 ·cases h;simp only[qkx,Bool.and_true,beq_iff_eq]at hl;exact .inr (by rw[hl])
 ·obtain⟨h1,_⟩:=ak h;exact .inr (by rw[bc h1])
 ·cases h
theorem qt5:∀{cs cs' :List TV} {l:List Bool},qt4 cs cs' =some l→qkx l=true→∀i,cs.getD i .any= .any∨cs.getD i .any=cs'.getD i .any
 |[],_,_,_,_,i=> .inl rfl
 |v::cs,[],l,h,hl,i=>by
  simp only[qt4]at h;split at h
  ·cases i with
   |zero=>exact .inl rfl
   |succ i=>exact qt5 (cs:=cs) (cs' :=[]) h hl i
  ·cases h
 |v::cs,v' ::cs',l,h,hl,i=>by
  simp only[qt4]at h;split at h
  ·rename_i a ha;split at h
   ·rename_i b hb;cases h;obtain⟨h1,h2⟩:=qqz hl;cases i with
    |zero=>exact jhf ha h1
    |succ i=>exact qt5 hb h2 i
   ·cases h
  ·cases h
theorem jdr:∀{cs:List TV},jnj cs=true→∀i,cs.getD i .any= .any
 |[],_,i=>rfl
 | .any::cs,h,0=>rfl
 | .any::cs,h,i+1=>jdr (cs:=cs) h i
 | .int _ _::_,h,_=>by cases h
 | .bool _::_,h,_=>by cases h
 | .val _::_,h,_=>by cases h
 | .e0::_,h,_=>by cases h
 | .sl _ _ _::_,h,_=>by cases h
 | .rptr _ _ _ _ _::_,h,_=>by cases h
 | .own _::_,h,_=>by cases h
 | .ownS _ _ _::_,h,_=>by cases h
 | .ptr _ _ _::_,h,_=>by cases h
 | .mp _::_,h,_=>by cases h
 | .fn _ _::_,h,_=>by cases h
 | .agg _::_,h,_=>by cases h
 | .tup _::_,h,_=>by cases h
 | .cond _ _::_,h,_=>by cases h
 | .nl _ _::_,h,_=>by cases h
theorem jiy{wk:Bool}{ob o:TOb}(h:jeq wk ob o=true):ob= .gone∨(wk=true∧CsW ob o):=by
 unfold jeq at h;split at h
 ·rename_i l hl;unfold jiz at hl;split at hl
  ·exact .inl rfl
  ·rename_i ty sz n cs;have h1:=(ak hl).1
   replace hl:=(ak hl).2
   simp only[Bool.and_eq_true]at h1;refine .inr ⟨h1.1,?_⟩;split at hl
   ·rename_i ty' sz' n' cs';have h2:=(ak hl).1
    replace hl:=(ak hl).2
    simp only[Bool.and_eq_true]at h2;have e1:=bc h2.1.1;have e2:=bc h2.1.2;have e3:=bc h2.2;subst e1 e2 e3;exact⟨_,_,_,_,rfl,fp h1.2, .inl ⟨_,rfl,qt5 hl h⟩⟩
   ·rename_i ty' md its u xs;have h2:=(ak hl).1
    replace hl:=(ak hl).2
    simp only[Bool.and_eq_true]at h2;have e1:=bc h2.1.1;have e2:=bc h2.1.2;subst e1 e2;cases hl;simp only[qkx,Bool.and_true,decide_eq_true_eq]at h;exact⟨_,_,_,_,rfl,fp h1.2, .inr ⟨_,_,_,_,rfl,rfl,h.symm,jdr h2.2⟩⟩
   ·cases hl
  ·cases hl
 ·cases h
structure Seen (N : Nat) (l : List Oper) (e : En) (o : Oper) (ex : Operand → TV) (b : Bool) (s : TS) : Prop where
 hv : ∀ (t : Nat) (ob : TOb), e.Hv[t]? = some ob → ob = .gone ∨ s.H[t]? = some ob ∨ (uk o.op = true ∧ ∃ ob', s.H[t]? = some ob' ∧ CsW ob ob')
 xs : b = true → ∀ x ∈ o.op.operands, Wk (evT N s.S x) (ex x)
 gd : Wn N l o s.S b
 fr : ∀ t : Nat, e.n ≤ t → t < e.n + e.news.length → s.H[t]? = some TOb.gone
theorem jqd{N:Nat}{S:List (Nat×TV)}{θ:TG→Ac}{x:Operand}{B:TV}(h:Wk (evT N S x) B)(ha:B.all (fun T=>(θ T).isId)=true):Wk (evT N (sbS θ S) x) B:=by
 cases x with
 |tmp t=>
  simp only[evT,rd]at h⊢;cases hb:Nat.blt t N with
  |false=>rw[hb]at h;exact h
  |true=>
   rw[hb]at h;simp only[cond_true]at h⊢;rw[i7];exact Wk.sb _ _ h ha
 |_=>exact h
theorem Wn.sb{N:Nat}{l:List Oper}{o:Oper}{S:List (Nat×TV)}{b:Bool}(θ:TG→Ac)(h:Wn N l o S b):Wn N l o (sbS θ S) b:=by
 unfold Wn at h⊢;cases hg:o.guard with
 |none=>rw[hg]at h;exact h
 |some g=>
  rw[hg]at h;obtain⟨d,h1,h2,h3⟩:=h;simp only[];refine⟨d,h1,h2,?_⟩;rw[i7];rcases h3 with⟨c,e,h4⟩|⟨e,h4⟩
  ·exact .inl ⟨c,by rw[e];rfl,h4⟩
  ·exact .inr ⟨by rw[e];rfl,h4⟩
theorem Seen.ap{N:Nat}{e:En}{o:Oper}{ex:Operand→TV}{b:Bool}{s:TS}(h:Seen N l e o ex b s)(hwk:e.wk=uk o.op)(hxs:b=true→e.xs=o.op.operands.toList.map ex){x:St}(hok:qeo e x=true):Seen N l e o ex b (s.ap x):=by
 cases x with
 |sb θ=>
  simp only[qeo,Bool.and_eq_true]at hok;obtain⟨⟨⟨h1,h2⟩,h3⟩,h4⟩:=hok;refine⟨fun t ob ho=> ?_,fun hb x hx=> ?_,h.gd.sb θ,fun t t1 t2=> ?_⟩
  ·rcases h.hv t ob ho with e1|e1|⟨hl,ob',e1,hc⟩
   ·exact .inl e1
   ·refine .inr (.inl ?_);simp only[TS.ap,hAp,iz,e1,Option.map_some];rw[jep ob (q6o h2 t ob ho)]
   ·refine .inr (.inr ⟨hl,ob'.sb θ,?_,hc.sb (q6o h2 t ob ho)⟩);simp only[TS.ap,hAp,iz,e1,Option.map_some]
  ·refine jqd (h.xs hb x hx) ?_;rw[hxs hb]at h1;have:∀{l:List TV} {p:TG→Bool},TV.allL p l=true→∀A∈l,A.all p=true:=by
    intro l p
    induction l with
    |nil=>intro _ A hA;simp at hA
    |cons B l ih=>
     intro ha A hA;simp only[TV.allL,Bool.and_eq_true]at ha;rcases List.mem_cons.1 hA with rfl|hA
     ·exact ha.1
     ·exact ih ha.2 A hA
   exact this h1 _ (List.mem_map.2 ⟨x,by simpa using hx,rfl⟩)
  ·simp only[TS.ap,hAp,iz,h.fr t t1 t2];rfl
 |set t' o' =>
  simp only[qeo,Bool.and_eq_true,Bool.or_eq_true]at hok;have ht:t' <e.n∨e.n+e.news.length≤t' :=hok.1.imp fp x7;refine⟨fun t ob ho=> ?_,h.xs,h.gd,fun t t1 t2=> ?_⟩
  ·have key:∀ob0,s.H[t]? =some ob0→t' =t→ob= .gone∨(s.ap (.set t' o')).H[t]? =some ob∨(uk o.op=true∧∃ob',(s.ap (.set t' o')).H[t]? =some ob' ∧CsW ob ob'):=by
    intro ob0 h0 e2;subst e2;have h2:=hok.2;rw[List.getD_eq_getElem?_getD,ho,Option.getD_some]at h2;rcases jiy h2 with e3|⟨e3,e4⟩
    ·exact .inl e3
    ·refine .inr (.inr ⟨by rw[←hwk];exact e3,o',?_,e4⟩);simp only[TS.ap,hAp];exact List.getElem?_set_self (List.getElem?_eq_some_iff.1 h0).1
   rcases h.hv t ob ho with e1|e1|⟨hl,ob',e1,hc⟩
   ·exact .inl e1
   ·by_cases e2:t' =t
    ·exact key _ e1 e2
    ·refine .inr (.inl ?_);simp only[TS.ap,hAp,List.getElem?_set_ne e2];exact e1
   ·by_cases e2:t' =t
    ·exact key _ e1 e2
    ·refine .inr (.inr ⟨hl,ob',?_,hc⟩);simp only[TS.ap,hAp,List.getElem?_set_ne e2];exact e1
  ·simp only[TS.ap,hAp];rw[List.getElem?_set_ne (by omega)];exact h.fr t t1 t2
 |new t' o' =>
  simp only[qeo,Bool.and_eq_true]at hok;have ht:=x7 hok.1;have ht2:=x7 hok.2;have key:∀t ob,t≠t' →s.H[t]? =some ob→(fw s.H t' o')[t]? =some ob:=by
   intro t ob hne hs;unfold fw;cases Nat.blt t' s.H.length with
   |true=>simp only[cond_true];rw[List.getElem?_set_ne (Ne.symm hne)];exact hs
   |false=>simp only[cond_false];rw[List.getElem?_append_left (List.getElem?_eq_some_iff.1 hs).1];exact hs
  refine⟨fun t ob ho=> ?_,h.xs,h.gd,fun t t1 t2=>key t _ (by omega) (h.fr t t1 t2)⟩;have:t<e.Hv.length:=(List.getElem?_eq_some_iff.1 ho).1;rcases h.hv t ob ho with e1|e1|⟨hl,ob',e1,hc⟩
  ·exact .inl e1
  ·exact .inr (.inl (key t ob (by omega) e1))
  ·exact .inr (.inr ⟨hl,ob',key t ob' (by omega) e1,hc⟩)
theorem Seen.aps{N:Nat}{e:En}{o:Oper}{ex:Operand→TV}{b:Bool}(hwk:e.wk=uk o.op)(hxs:b=true→e.xs=o.op.operands.toList.map ex):∀{δ:List St} {s:TS},Seen N l e o ex b s→tk e δ=true→Seen N l e o ex b (s.aps δ)
 |[],s,h,_=>h
 |x::δ,s,h,hok=>by
  simp only[tk,Bool.and_eq_true]at hok;exact Seen.aps hwk hxs (δ:=δ) (s:=s.ap x) (h.ap hwk hxs hok.1) hok.2
theorem jn3{N:Nat}{S:List (Nat×TV)}{d:Option Tmp}{v:TV}{x:Operand}(h:∀t,x= .tmp t→d≠some t):evT N (qyp S d v) x=evT N S x:=by
 cases x with
 |tmp t=>simp only[evT,rd,ot,if_neg (h t rfl)]
 |_=>rfl
theorem jdj{l:List Oper}{o:Oper}{t:Nat}(h:Operand.tmp t∈o.op.operands):t∈usN l o:=
 List.mem_append.2 (.inl (List.mem_filterMap.2 ⟨.tmp t,by simpa using h,rfl⟩))
theorem jp4{l:List Oper}{o:Oper}{g:Nat×Bool}{d:Nat}(hg:o.guard=some g)(hd:qq6 l g.1=some d):d∈usN l o:=by
 refine List.mem_append.2 (.inr ?_);rw[hg];simp only[hd];simp
theorem Wn.slots{N:Nat}{l:List Oper}{o:Oper}{S S' :List (Nat×TV)}{b:Bool}(h:∀t∈usN l o,cw S t=cw S' t)(hw:Wn N l o S b):Wn N l o S' b:=by
 unfold Wn at hw⊢;cases hg:o.guard with
 |none=>rw[hg]at hw;exact hw
 |some g=>
  rw[hg]at hw;obtain⟨d,h1,h2,h3⟩:=hw;simp only[];refine⟨d,h1,h2,?_⟩;rw[←h d (jp4 hg h1)];exact h3
theorem Seen.put{N:Nat}{e:En}{o:Oper}{ex:Operand→TV}{b:Bool}{s:TS}(h:Seen N l e o ex b s){d:Option Tmp}{v:TV}(hd:∀t,d=some t→t∉usN l o):Seen N l e o ex b (s.put d v):=by
 rw[yx];refine⟨h.hv,fun hb x hx=> ?_,h.gd.slots fun t ht=> ?_,h.fr⟩
 ·rw[jn3 (fun t e1 e2=>hd t e2 (jdj (by rw[←e1];exact hx)))];exact h.xs hb x hx
 ·rw[ot,if_neg fun e2=>hd t e2 ht]
theorem q3b{N:Nat}{e:En}{o:Oper}{ex:Operand→TV}{b:Bool}(hwk:e.wk=uk o.op)(hxs:b=true→e.xs=o.op.operands.toList.map ex){D:Nat→Bool}{s:TS}(hg:Seen N l e o ex b s):∀{res:List RE},(∀re∈res,D re.i=true→tk e re.δ=true∧∀t,re.dst=some t→t∉usN l o)→Seen N l e o ex b (stR D s res)
 |[],_=>hg
 |re::res,h=>by
  have ih:=q3b hwk hxs hg (res:=res) fun r hr=>h r (List.mem_cons_of_mem _ hr)
  unfold stR;split
  ·rename_i hd;obtain⟨h1,h2⟩:=h re List.mem_cons_self hd;exact(Seen.aps hwk hxs ih h1).put h2
  ·exact ih
end
end Go.K
namespace Go.K
open Go.M Go.RowKit
section
variable {U : Nat → Prop} {w0 : World} {σ0 : Pl} {K : Nat → Bool} {N : Nat} {P : Program}
theorem fy.heapEq{s:TS}{a:Act}{w w' :World}{σ:Pl}(h:fy U w0 σ0 K N s a w σ)(h1:w'.heap=w.heap)(h2:w'.os=w.os)(h3:w'.tape=w.tape)(h4:w'.output=w.output):fy U w0 σ0 K N s a w' σ:=by
 have hV:∀T:TG,¬False→vw s.H T=(vw s.H T).map (Vw.sb fun _=> .id):=fun T _=>(qgm _).symm
 have hm:Mv (fun _=> .id) (gr U (vw s.H) w σ) (gr U (vw s.H) w' σ):=
  Mv.upd h.hr (fun _=>False) (by rw[h1];exact Nat.le_refl _) hV (fun T _=>rfl) (fun T g o _ _=>by rw[h1]) (fun b _ _=>by rw[h1]) (fun T g o hT=>hT.elim) (fun T q _ T' e=>by cases e) (fun T T' q hT=>hT.elim) (fun T fr u xs q e=>by cases e)
 refine ARel.go h hm (fun t=>(TV.sb_id _).symm) ?_;exact h.hr.upd (fun _=>False) hm hV (fun T _=>rfl) (fun T g o _ _=>by rw[h1]) (fun T v hT=>hT.elim) (fun T p hT=>hT.elim) (fun T g o hT=>hT.elim) h.hr.inj h2 h3 h4 (fun t _ hT=>hT.elim) (fun t g o _ hT=>hT.elim)
theorem q9x:∀(l:List Oper) (j:Nat),qq6 l j=(l[j]?).bind (·.dst)
 |[],j=>by simp[qq6]
 |o::l,0=>rfl
 |o::l,j+1=>by simpa[qq6]using q9x l j
theorem qdu{l:List Oper}{s:TS}{a:Act}{w:World}{σ:Pl}(h:fy U w0 σ0 K N s a w σ){o:Oper}{b:Bool}(hw:Wn N l o s.S b):Region.wanted o (yielded l.toArray a.tmps)=b:=by
 unfold Wn at hw;cases hg:o.guard with
 |none=>rw[hg]at hw;subst hw;simp[Region.wanted,hg]
 |some g=>
  rw[hg]at hw;obtain⟨d,h1,h2,h3⟩:=hw;obtain⟨v,hv,hV⟩:=h.slot d h2;obtain⟨gj,gw⟩:=g;simp only[Region.wanted,hg,yielded];have e1:((l.toArray[gj]?).bind (·.dst))=some d:=by rw[q9x]at h1;simpa using h1
  rw[e1];simp only[Option.bind_some,hv];rcases h3 with⟨c,e,h4⟩|⟨e,h4⟩
  ·rw[e]at hV;simp only[VR]at hV;subst hV;rw[←h4];cases c<;>cases gw<;>rfl
  ·rw[e]at hV;simp only[VR,Bool.false_eq_true,if_false]at hV;subst hV;rw[h4];rfl
end
section
variable {R Rf : Type} {X : Ctx Rf} {l : List Oper} {c6 rs τ : List Nat} {S0 : List (Nat × TV)} {H0 : List TOb}
theorem Tr.at_:∀{recs:List En},Tr X l c6 rs τ S0 H0 recs→∀e∈recs,∃o,l[e.i]? =some o∧e.dst=o.dst∧s7 e.i rs=false
 |[],_,e,h=>by simp at h
 |e' ::recs,ht,e,h=>by
  obtain⟨ht,o,he⟩:=ht;rcases List.mem_cons.1 h with rfl|h
  ·exact⟨o,he.at_,he.dst,he.free⟩
  ·exact Tr.at_ ht e h
theorem Tr.split:∀{recs:List En},Tr X l c6 rs τ S0 H0 recs→∀e∈recs,∃later earlier o,recs=later++e::earlier∧Tr X l c6 rs τ S0 H0 earlier∧EnOK X l c6 rs τ S0 H0 earlier e o∧∀e' ∈later,e.i<e'.i
 |[],_,e,h=>by simp at h
 |e1::recs,ht,e,h=>by
  obtain⟨ht,o,he⟩:=ht;rcases List.mem_cons.1 h with rfl|hm
  ·exact⟨[],recs,o,rfl,ht,he,fun e' he' =>by simp at he'⟩
  ·obtain⟨later,earlier,o',h1,h2,h3,h4⟩:=Tr.split ht e hm;refine⟨e1::later,earlier,o',by rw[h1];rfl,h2,h3,fun e' he' => ?_⟩;rcases List.mem_cons.1 he' with rfl|he'
   ·exact he.lt e hm
   ·exact h4 e' he'
theorem qtq(D:Nat→Bool)(e:En)(m:List En):su S0 H0 D (e::m)=if D e.i=true then⟨qyp (su S0 H0 D m).S e.dst e.v,(su S0 H0 D m).H++e.news⟩else⟨(su S0 H0 D m).S,(su S0 H0 D m).H++List.replicate e.news.length .gone⟩:=rfl
theorem qm4{D:Nat→Bool}{t:Nat}{m:List En}:∀{later:List En},(∀e∈later,e.dst=some t→D e.i=false)→cw (su S0 H0 D (later++m)).S t=cw (su S0 H0 D m).S t
 |[],_=>rfl
 |e::later,h=>by
  have ih:=qm4 (m:=m) (later:=later) fun e' he' =>h e' (List.mem_cons_of_mem _ he')
  rw[List.cons_append,qtq];split
  ·rename_i hd;have:e.dst≠some t:=fun e1=>by rw[h e List.mem_cons_self e1]at hd;cases hd
   simp only[ot,if_neg this];exact ih
  ·exact ih
theorem qm3{D:Nat→Bool}{t:Nat}{m:List En}(ht:t<(su S0 H0 D m).H.length):∀{later:List En},t<(su S0 H0 D (later++m)).H.length∧(su S0 H0 D (later++m)).H[t]? =(su S0 H0 D m).H[t]?
 |[]=>⟨ht,rfl⟩
 |e::later=>by
  obtain⟨h1,h2⟩:=qm3 ht (later:=later);rw[List.cons_append,qtq];split
  ·exact⟨by simp only[List.length_append];omega,by simp only[];rw[List.getElem?_append_left h1];exact h2⟩
  ·exact⟨by simp only[List.length_append];omega,by simp only[];rw[List.getElem?_append_left h1];exact h2⟩
theorem q82{i:Nat}{t:Nat}:∀{recs:List En},t∉zR c6 i recs→∀e∈recs,e.n≤t→t<e.n+e.news.length→inW c6 e.i i=true
 |[],_,e,h,_,_=>by simp at h
 |e' ::recs,hz,e,h,h1,h2=>by
  unfold zR at hz;cases hb:inW c6 e'.i i with
  |true=>
   rw[hb]at hz;rcases List.mem_cons.1 h with rfl|h
   ·exact hb
   ·exact q82 hz e h h1 h2
  |false=>
   rw[hb]at hz;simp only[cond_false,List.mem_append,not_or]at hz;rcases List.mem_cons.1 h with rfl|h
   ·exact absurd (q1x.2 ⟨h1,h2⟩) hz.1
   ·exact q82 hz.2 e h h1 h2
theorem jlp(hF:Facts l c6 rs){D:Nat→Bool}(hcl:qzs l D){recs later earlier:List En}{e:En}{o:Oper}(hr:recs=later++e::earlier)(ht:Tr X l c6 rs τ S0 H0 recs)(hte:Tr X l c6 rs τ S0 H0 earlier)(he:EnOK X l c6 rs τ S0 H0 earlier e o)(hlt:∀e' ∈later,e.i<e'.i)
  (hD:D e.i=false) (hW:∀j,inW c6 j e.i=true→D j=true) {b:Bool} (hw:Wn X.N l o (qcd S0 earlier) b) (hHv:HvW o.op e.Hv (qpl (zA c6 rs τ e.i earlier) (uw H0 earlier))):
  Seen X.N l e o (fun x=>qi5 (zR c6 e.i earlier) (evT X.N (qcd S0 earlier) x)) b (su S0 H0 D recs):=by
 have hslot:∀t∈usN l o,cw (su S0 H0 D recs).S t=cw (qcd S0 earlier) t:=by
  intro t htu;have h1:cw (su S0 H0 D recs).S t=cw (su S0 H0 D (e::earlier)).S t:=by
   rw[hr];refine qm4 fun e' he' hd=> ?_
   cases hb:D e'.i with
   |false=>rfl
   |true=>
    exfalso;obtain⟨o',ho',hd',hm'⟩:=ht.at_ e' (by rw[hr];exact List.mem_append_left _ he');cases hi:inW c6 e.i e'.i with
    |true=>rw[qzj hF.tb hcl ho' hb hi]at hD;cases hD
    |false=>
     have:=hF.aa e.i e'.i o o' (hlt e' he') he.at_ ho' he.free hi;exact(qdx this).2 t (by rw[←hd'];exact hd) htu
  rw[h1];have h2:cw (su S0 H0 D (e::earlier)).S t=cw (su S0 H0 D earlier).S t:=by
   rw[qtq,if_neg (by simp[hD])]
  rw[h2];refine q3a fun e' he' hd=> ?_
  obtain⟨o',ho',hd',hm'⟩:=hte.at_ e' he';cases hi:inW c6 e'.i e.i with
  |true=>exact hW _ hi
  |false=>
   have:=hF.aa e'.i e.i o' o (he.lt e' he') ho' he.at_ hm' hi;exact absurd htu ((qdx this).1 t (by rw[←hd'];exact hd)).1
 refine⟨fun t ob hob=> ?_,fun _ x hx=> ?_,hw.slots fun t htu=>(hslot t htu).symm,fun t h1 h2=> ?_⟩
 ·have key:∀ob,(qpl (zA c6 rs τ e.i earlier) (uw H0 earlier))[t]? =some ob→ob= .gone∨(su S0 H0 D recs).H[t]? =some ob:=by
   intro ob hob;rcases jbo hob with hg|⟨h1,h2⟩
   ·exact .inl hg
   ·refine .inr ?_;have hlt' :t<(uw H0 earlier).length:=(List.getElem?_eq_some_iff.1 h1).1;have e0:(su S0 H0 D (e::earlier)).H[t]? =(su S0 H0 D earlier).H[t]? ∧t<(su S0 H0 D (e::earlier)).H.length:=by
     have:=qm3 (S0:=S0) (H0:=H0) (D:=D) (t:=t) (m:=earlier) (by rw[qf3];exact hlt') (later:=[e]);exact⟨this.2,this.1⟩
    rw[hr,(qm3 e0.2).2,e0.1,jdc hte,h1];intro e' he' h3 h4;exact hW _ (q82 (fun hz=>h2 (List.mem_append_right _ hz)) e' he' h3 h4)
  rcases hHv.at_ t ob hob with hg|h1|⟨hl,ob',h1,hc⟩
  ·exact .inl hg
  ·exact(key ob h1).imp_right .inl
  ·rcases key ob' h1 with hg|h2
   ·subst hg;obtain⟨_,_,_,_,_,_,⟨_,h3,_⟩|⟨_,_,_,_,h3,_⟩⟩:=hc<;>cases h3
   ·exact .inr (.inr ⟨hl,ob',h2,hc⟩)
 ·cases x with
  |tmp t=>
   have:=hslot t (jdj hx);simp only[evT,rd,this];exact qbu _ _
  |const v=>exact qbu _ _
  |func f=>exact qbu _ _
  |global g=>exact qbu _ _
 ·exact jbi ht e (by rw[hr];simp) hD h1 h2
end
end Go.K
namespace Go.K
open Go.M Go.RowKit
section
variable {R Rf : Type} {X : Ctx Rf} {l : List Oper} {c6 rs τ : List Nat} {S0 : List (Nat × TV)} {H0 : List TOb} {recs : List En} {s0 : TS}
theorem TrR.at_:∀{res:List RE},TrR X l c6 rs recs s0 res→∀e∈res,∃o,l[e.i]? =some o∧e.dst=o.dst∧s7 e.i rs=true∧qop c6 e.i e.δ recs=true
 |[],_,e,h=>by simp at h
 |e' ::res,ht,e,h=>by
  obtain⟨ht,o,he⟩:=ht;rcases List.mem_cons.1 h with rfl|h
  ·refine⟨o,he.at_,he.dst,he.wr,?_⟩;rcases he.run with⟨_,_,h3⟩|⟨_,h2,_⟩
   ·exact h3
   ·rw[h2];have:∀m:List En,qop c6 e.i [] m=true:=by
     intro m
     induction m with
     |nil=>rfl
     |cons a m ih=>simp[qop,tk,ih]
    exact this recs
  ·exact TrR.at_ ht e h
theorem TrR.split:∀{res:List RE},TrR X l c6 rs recs s0 res→∀e∈res,∃later earlier o,res=later++e::earlier∧REOK X l c6 rs recs s0 earlier e o∧∀e' ∈later,e.i<e'.i
 |[],_,e,h=>by simp at h
 |e1::res,ht,e,h=>by
  obtain⟨ht,o,he⟩:=ht;rcases List.mem_cons.1 h with rfl|hm
  ·exact⟨[],res,o,rfl,he,fun e' he' =>by simp at he'⟩
  ·obtain⟨later,earlier,o',h1,h3,h4⟩:=TrR.split ht e hm;refine⟨e1::later,earlier,o',by rw[h1];rfl,h3,fun e' he' => ?_⟩;rcases List.mem_cons.1 he' with rfl|he'
   ·exact he.lt e hm
   ·exact h4 e' he'
theorem jau{i:Nat}{δ:List St}:∀{recs:List En},qop c6 i δ recs=true→∀e∈recs,inW c6 e.i i=true∨tk e δ=true
 |[],_,e,h=>by simp at h
 |e' ::recs,ho,e,h=>by
  simp only[qop,Bool.and_eq_true,Bool.or_eq_true]at ho;rcases List.mem_cons.1 h with rfl|h
  ·exact ho.1
  ·exact jau ho.2 e h
theorem qnl{D:Nat→Bool}{s:TS}{m:List RE}:∀{later:List RE},(∀e∈later,D e.i=false)→stR D s (later++m)=stR D s m
 |[],_=>rfl
 |e::later,h=>by
  show(if D e.i=true then _ else stR D s (later++m))=_;rw[if_neg (by simp[h e List.mem_cons_self])];exact qnl fun e' he' =>h e' (List.mem_cons_of_mem _ he')
theorem qzr{D:Nat→Bool}{s:TS}:∀{m:List RE},(∀e∈m,D e.i=true)→stR D s m=canR s m
 |[],_=>rfl
 |e::m,h=>by
  show(if D e.i=true then((stR D s m).aps e.δ).put e.dst e.v else _)=((canR s m).aps e.δ).put e.dst e.v;rw[if_pos (h e List.mem_cons_self),qzr fun e' he' =>h e' (List.mem_cons_of_mem _ he')]
structure Sim (Zt Zs : Nat → Prop) (s s' : TS) : Prop where
 len : s.H.length = s'.H.length
 H : ∀ t : Nat, ¬ Zt t → s.H[t]? = s'.H[t]?
 S : ∀ t, ¬ Zs t → cw s.S t = cw s'.S t
theorem Sim.ap{Zt Zs:Nat→Prop}{s s' :TS}(h:Sim Zt Zs s s')(x:St):Sim Zt Zs (s.ap x) (s'.ap x):=by
 cases x with
 |sb θ=>exact⟨by simp only[TS.ap,hAp,di];exact h.len,fun t ht=>by simp only[TS.ap,hAp,iz,h.H t ht],fun t ht=>by simp only[TS.ap,sAp,i7,h.S t ht]⟩
 |set t' o=>exact⟨by simp only[TS.ap,hAp,List.length_set];exact h.len,fun t ht=>by simp only[TS.ap,hAp,List.getElem?_set,h.len,h.H t ht],h.S⟩
 |new t' o=>
  refine⟨?_,fun t ht=> ?_,h.S⟩
  ·simp only[TS.ap,hAp,fw,h.len];cases Nat.blt t' s'.H.length<;>simp[h.len]
  ·simp only[TS.ap,hAp,fw,h.len];cases Nat.blt t' s'.H.length with
   |true=>simp only[cond_true,List.getElem?_set,h.len,h.H t ht]
   |false=>simp only[cond_false,List.getElem?_append,h.len,h.H t ht]
theorem Sim.aps{Zt Zs:Nat→Prop}:∀{δ:List St} {s s' :TS},Sim Zt Zs s s' →Sim Zt Zs (s.aps δ) (s'.aps δ)
 |[],_,_,h=>h
 |x::δ,s,s',h=>Sim.aps (δ:=δ) (h.ap x)
theorem Sim.put{Zt Zs:Nat→Prop}{s s' :TS}(h:Sim Zt Zs s s')(d:Option Tmp)(v:TV):Sim Zt Zs (s.put d v) (s'.put d v):=by
 rw[yx,yx];exact⟨h.len,h.H,fun t ht=>by simp only[ot,h.S t ht]⟩
theorem Sim.canR{Zt Zs:Nat→Prop}{s s' :TS}(h:Sim Zt Zs s s'):∀(res:List RE),Sim Zt Zs (canR s res) (canR s' res)
 |[]=>h
 |e::res=>((Sim.canR h res).aps (δ:=e.δ)).put e.dst e.v
theorem Ext.canR{s s' :TS}(h:Ext s s'):∀(res:List RE),Ext (canR s res) (canR s' res)
 |[]=>h
 |e::res=>((Ext.canR h res).aps e.δ).put e.dst e.v
theorem jex(ht:Tr X l c6 rs τ S0 H0 recs)(D:Nat→Bool):Sim (fun t=>∃e∈recs,D e.i=false∧e.n≤t∧t<e.n+e.news.length) (fun t=>∃e∈recs,D e.i=false∧e.dst=some t) (su S0 H0 D recs) ⟨qcd S0 recs,uw H0 recs⟩:=by
 refine⟨qf3 D recs,fun t hz=>jdc ht fun e he h1 h2=> ?_,fun t hz=>q3a fun e he h1=> ?_⟩
 ·cases hb:D e.i with
  |true=>rfl
  |false=>exact absurd ⟨e,he,hb,h1,h2⟩ hz
 ·cases hb:D e.i with
  |true=>rfl
  |false=>exact absurd ⟨e,he,hb,h1⟩ hz
end
section
variable {U : Nat → Prop} {w0 : World} {σ0 : Pl} {K : Nat → Bool} {P : Program} {R Rf : Type}
theorem jp7(H:List TOb)(n:Nat):vw (H++List.replicate n .gone)=vw H:=by
 funext T;have key:∀t:Nat,(H++List.replicate n TOb.gone)[t]? =H[t]? ∨(H[t]? =none∧(H++List.replicate n TOb.gone)[t]? =some .gone):=by
  intro t;rcases Nat.lt_or_ge t H.length with h1|h1
  ·exact .inl (List.getElem?_append_left h1)
  ·rw[List.getElem?_append_right h1,List.getElem?_eq_none h1,List.getElem?_replicate];split
   ·exact .inr ⟨rfl,rfl⟩
   ·exact .inl rfl
 cases T with
 |o t=>rcases key t with e|⟨e1,e2⟩<;>simp only[vw]<;>first|rw[e]|(rw[e1,e2];rfl)
 |r t i f=>rcases key t with e|⟨e1,e2⟩<;>simp only[vw]<;>first|rw[e]|(rw[e1,e2];rfl)
theorem q8o{δ δ' :List St}{v v' :TV}(h:rt δ' v' =some (δ,v)):δ' =δ∧v' =v:=by
 simp only[rt,Option.some.injEq,Prod.mk.injEq]at h;exact h
theorem jka{X:Ctx Rf}(hX:CtxOK P X)(hmix:P.follows .mixedOrders=true)(hK:∀t,cf X.kp t=false→K t=false){id:Nat}{l:List Oper}{c6 rs τ:List Nat}{s:TS}{k:TS→Option R}{r:R}(h:jn0 X l c6 rs τ s k=some r)
  {Q:Exit→Act→World→Prop} (hQ:∀s' a' w' σ',fy U w0 σ0 K X.N s' a' w' σ' →k s' =some r→Q .normal a' w') {a:Act} {w:World} {σ:Pl} (hr:fy U w0 σ0 K X.N s a w σ):(Code.region id l.toArray true).wp P Q a w:=by
 unfold jn0 at h;obtain⟨hdr,h⟩:=ak h;have hF:=facts hdr;obtain⟨recs,S',htr,hcov,hS',h⟩:=jky (S0:=s.S) (H0:=s.H) l 0 s.S [] rfl trivial (fun e he=>by simp at he) (fun j hj=>by omega) (fun _=>rfl) h;obtain⟨res,sf,htrR,hcovR,hsf,hk⟩:=jkz (s0:=⟨qcd s.S recs,uw s.H recs⟩) l 0 ⟨S',uw s.H recs⟩ [] rfl trivial (fun e he=>by simp at he) (fun j hj=>by omega) ⟨rfl,hS'⟩ h;clear h;have hback:∀i k,k∈qu7 l i→k<i:=by
  intro i k hk;cases ho:l[i]? with
  |none=>simp[qu7,ho]at hk
  |some o=>
   rw[jeg ho]at hk;have:=(jdh hF.tb i o ho).2 k hk;omega
 refine jhn hmix hback (fun D a w=>∃σ,fy U w0 σ0 K X.N (stR D (su s.S s.H D recs) res) a w σ) ?_ ?_ ?_
 ·
  intro D i o a w hcl hbey ho hDi hon ⟨σ,hr⟩ KK hKK;have hW:=fun j hj=>jg0 hF.tb hcl i o ho hon j hj
  have hil:i<l.length:=(List.getElem?_eq_some_iff.1 ho).1;cases hm:s7 i rs with
  |false=>
   obtain⟨e,hem,rfl⟩:=hcov i hil hil hm;obtain⟨later,earlier,o',hrec,hte,he,hlt⟩:=htr.split e hem;have hoo:o' =o:=by have:=he.at_;rw[ho]at this;injection this with this;exact this.symm
   subst hoo;have hRes:∀re∈res,D re.i=true→tk e re.δ=true∧∀t,re.dst=some t→e.dst≠some t∧t∉usN l o' :=by
    intro re hre hD;obtain⟨o2,h1,h2,h3,h4⟩:=htrR.at_ re hre;have hni:inW c6 e.i re.i=false:=by
     cases hb:inW c6 e.i re.i with
     |false=>rfl
     |true=>rw[qzj hF.tb hcl h1 hD hb]at hDi;cases hDi
    refine⟨?_,fun t ht=> ?_⟩
    ·rcases jau h4 e hem with hb|hb
     ·rw[hni]at hb;cases hb
     ·exact hb
    ·rw[h2]at ht;rw[he.dst];rcases Nat.lt_trichotomy e.i re.i with hlt' |heq|hgt
     ·have hc:=qdx (hF.aa e.i re.i o' o2 hlt' ho h1 hm hni);exact⟨fun e1=>(hc.1 t e1).2 ht,hc.2 t ht⟩
     ·rw[heq]at hm;rw[hm]at h3;cases h3
     ·have hc:=qdx (hF.ra re.i e.i o2 o' hgt h1 ho h3 hm);exact⟨(hc.1 t ht).2,(hc.1 t ht).1⟩
   have hnew:Ext (stR (rq D e.i) (su s.S s.H (rq D e.i) recs) res) (apE e (stR D (su s.S s.H D recs) res))∧e.n+e.news.length≤(stR D (su s.S s.H D recs) res).H.length:=by
    refine jey (by rw[qf3];exact(Tr.bnd htr e hem).2) (jew htr e hem hDi fun e' he' hlt' hD' d hd=> ?_) (fun re hre=> ?_) (fun re hre hD=>⟨(hRes re hre hD).1,fun t ht=>((hRes re hre hD).2 t ht).1⟩)
    ·obtain⟨o2,h1,h2,h3⟩:=htr.at_ e' he';have hni:inW c6 e.i e'.i=false:=by
      cases hb:inW c6 e.i e'.i with
      |false=>rfl
      |true=>rw[qzj hF.tb hcl h1 hD' hb]at hDi;cases hDi
     have hc:=qdx (hF.aa e.i e'.i o' o2 hlt' ho h1 hm hni);rw[he.dst];exact fun e1=>(hc.1 d e1).2 (by rw[←h2];exact hd)
    ·obtain⟨o2,h1,h2,h3,h4⟩:=htrR.at_ re hre;exact qgj fun e1=>by rw[e1,hm]at h3;cases h3
   have hgo:∀a' w' σ',fy U w0 σ0 K X.N (apE e (stR D (su s.S s.H D recs) res)) a' w' σ' →KK a' w' :=fun a' w' σ' h' =>hKK a' w' ⟨σ',h'.ext hnew.1.symm⟩
   rcases he.run with⟨hw,hxs,hHv,δ,hst,hobs⟩|⟨hw,hv,hnews,hHv,hxs⟩
   ·have hseen:=q3b he.wk (fun _=>hxs) (jlp hF hcl hrec htr hte he hlt hDi hW hw hHv) (D:=D) (res:=res) (fun re hre hD=>⟨(hRes re hre hD).1,fun t ht=>((hRes re hre hD).2 t ht).2⟩);rw[qdu hr hseen.gd,if_pos rfl];have hdoes:sw P U w0 σ0 K X.N o' (stR D (su s.S s.H D recs) res) a w rt (δ,e.v):=by
     cases hld:uk o'.op with
     |true=>
      refine jgp hX hr (jgf hr.hr.sees fun t ob hob=> ?_) hld (fun x hx=>Wk.vr _ _ _ (hseen.xs rfl x hx) (hr.ev x)) hst;rcases hseen.hv t ob hob with h1|h1|⟨_,h1⟩
      ·exact .inl h1
      ·exact .inr (.inl h1)
      ·exact .inr (.inr h1)
     |false=>
      have hl:HLe (fun t=>e.n≤t∧t<e.n+e.news.length) e.Hv (stR D (su s.S s.H D recs) res).H:=by
       refine⟨fun t ob hob=> ?_,fun t _ hf=> .inr (hseen.fr t hf.1 hf.2),?_⟩
       ·rcases hseen.hv t ob hob with h1|h1|⟨h1,_⟩
        ·exact .inl h1
        ·exact .inr h1
        ·rw[hld]at h1;cases h1
       ·have:=hHv.len;rw[qwi,←he.n]at this;omega
      exact q8x hX hr hl hK (fun x hx=>Wk.vr _ _ _ (hseen.xs rfl x hx) (hr.ev x)) (fun δ' v' hrt t o hmem=>q1g hobs t o (by rw[←(q8o hrt).1];exact hmem)) hst
    obtain⟨δ',v',hrt,hdo⟩:=hdoes;obtain⟨rfl,rfl⟩:=q8o hrt;refine hdo Q KK fun a' w' σ' h' =>hgo a' w' σ' ?_
    rw[q9m _ hobs hnew.2,yx,←he.dst]at h';exact h'
   ·have hseen:=q3b (b:=false) he.wk (fun hb=>by cases hb) (jlp hF hcl hrec htr hte he hlt hDi hW hw ⟨fun t ob hob=>by rw[hHv]at hob;simp at hob,by rw[hHv];exact Nat.zero_le _⟩) (D:=D) (res:=res) (fun re hre hD=>⟨(hRes re hre hD).1,fun t ht=>((hRes re hre hD).2 t ht).2⟩);rw[qdu hr hseen.gd,if_neg (by simp)];refine hgo _ _ σ ?_;have:=hr.put o'.dst (A:= .undef) (v:=undef) (by simp[VR]);rw[yx]at this;unfold apE;rw[hnews,hv,he.dst];exact this
  |true=>
   obtain⟨re,hrem,rfl⟩:=hcovR i hil hil hm;obtain⟨later,earlier,o',hres,he,hlt⟩:=htrR.split re hrem;have hoo:o' =o:=by have:=he.at_;rw[ho]at this;injection this with this;exact this.symm
   subst hoo;have hlater:∀re' ∈later,D re'.i=false:=by
    intro re' hre';obtain⟨o2,h1,h2,h3,h4⟩:=htrR.at_ re' (by rw[hres];exact List.mem_append_left _ hre');cases hb:D re'.i with
    |false=>rfl
    |true=>rw[qzj hF.tb hcl h1 hb (hF.rr re.i re'.i o' o2 (hlt re' hre') ho h1 hm h3)]at hDi;cases hDi
   have hearl:∀re' ∈earlier,D re'.i=true:=by
    intro re' hre';obtain⟨o2,h1,h2,h3,h4⟩:=htrR.at_ re' (by rw[hres];exact List.mem_append_right _ (List.mem_cons_of_mem _ hre'));exact hW _ (hF.rr re'.i re.i o2 o' (he.lt re' hre') h1 ho h3 hm)
   have hst0:stR D (su s.S s.H D recs) res=canR (su s.S s.H D recs) earlier:=by
    rw[hres,qnl hlater];show(if D re.i=true then _ else stR D (su s.S s.H D recs) earlier)=_;rw[if_neg (by simp[hDi]),qzr hearl]
   have hst1:stR (rq D re.i) (su s.S s.H (rq D re.i) recs) res=((canR (su s.S s.H D recs) earlier).aps re.δ).put re.dst re.v:=by
    have e1:su s.S s.H (rq D re.i) recs=su s.S s.H D recs:=qwg fun e he' =>by
     obtain⟨o2,h1,h2,h3⟩:=htr.at_ e he';exact qgj fun e2=>by rw[e2,hm]at h3;cases h3
    rw[e1,hres,qnl fun re' hre' =>by rw[qgj (by have:=hlt re' hre';omega)];exact hlater re' hre'];show(if rq D re.i re.i=true then((stR (rq D re.i) (su s.S s.H D recs) earlier).aps re.δ).put re.dst re.v else _)=_;rw[if_pos q9w,qzr fun re' hre' =>by rw[qgj (by have:=he.lt re' hre';omega)];exact hearl re' hre']
   rw[hst0]at hr;have hsim:=(jex htr D).canR earlier;have hslot:∀t∈usN l o',cw (canR (su s.S s.H D recs) earlier).S t=cw (canR ⟨qcd s.S recs,uw s.H recs⟩ earlier).S t:=by
    intro t htu;refine hsim.S t ?_;rintro⟨e,hem,hDe,hde⟩;obtain⟨o2,h1,h2,h3⟩:=htr.at_ e hem;rcases Nat.lt_trichotomy e.i re.i with hlt' |heq|hgt
    ·cases hb:inW c6 e.i re.i with
     |true=>rw[hW _ hb]at hDe;cases hDe
     |false=>exact((qdx (hF.aa e.i re.i o2 o' hlt' h1 ho h3 hb)).1 t (by rw[←h2];exact hde)).1 htu
    ·rw[heq,hm]at h3;cases h3
    ·exact(qdx (hF.ra re.i e.i o' o2 hgt ho h1 hm h3)).2 t (by rw[←h2];exact hde) htu
   rcases he.run with⟨hw,hst,hok⟩|⟨hw,hδ,hv⟩
   ·rw[qdu hr (hw.slots fun t ht=>(hslot t ht).symm),if_pos rfl];have hl:HLe (fun _=>True) (qpl (zR c6 re.i recs) (canR ⟨qcd s.S recs,uw s.H recs⟩ earlier).H) (canR (su s.S s.H D recs) earlier).H:=by
     refine⟨fun t ob hob=> ?_,fun t ht _=> .inl (List.getElem?_eq_none (by rw[hsim.len];rw[qwi]at ht;exact ht)),by rw[qwi,hsim.len];exact Nat.le_refl _⟩;rcases jbo hob with hg|⟨h1,h2⟩
     ·exact .inl hg
     ·refine .inr ?_;rw[hsim.H t,h1];rintro⟨e,hem,hDe,h3,h4⟩;rw[hW _ (q82 h2 e hem h3 h4)]at hDe;cases hDe
    have hxs:∀x∈o'.op.operands,VR (gr U (vw (canR (su s.S s.H D recs) earlier).H) w σ) (qi5 (zR c6 re.i recs) (evT X.N (canR ⟨qcd s.S recs,uw s.H recs⟩ earlier).S x)) (a.eval x):=by
     intro x hx;refine Wk.vr _ _ _ ?_ (hr.ev x);cases x with
     |tmp t=>
      simp only[evT,rd,hslot t (jdj hx)];exact qbu _ _
     |const v=>exact qbu _ _
     |func f=>exact qbu _ _
     |global g=>exact qbu _ _
    obtain⟨δ',v',hrt,hdo⟩:=q8x hX hr hl hK hxs (fun _ _ _ _ _ _=>trivial) hst;obtain⟨rfl,rfl⟩:=q8o hrt;refine hdo Q KK fun a' w' σ' h' =>hKK a' w' ⟨σ',?_⟩
    rw[hst1,he.dst];exact h'
   ·rw[qdu hr (hw.slots fun t ht=>(hslot t ht).symm),if_neg (by simp)];refine hKK _ _ ⟨σ,?_⟩;rw[hst1,hδ,hv,he.dst];exact hr.put o'.dst (A:= .undef) (v:=undef) (by simp[VR])
 ·
  intro D a w hall hbey ⟨σ,hr⟩;have e1:Ext (su s.S s.H D recs) ⟨qcd s.S recs,uw s.H recs⟩:=by
   have hs:=jex htr D;have hno:∀e∈recs,D e.i=true:=fun e he=>by
    obtain⟨o2,h1,_⟩:=htr.at_ e he;exact hall _ (List.getElem?_eq_some_iff.1 h1).1
   refine⟨List.ext_getElem? fun t=>hs.H t ?_,fun t=>hs.S t ?_⟩
   ·rintro⟨e,he,hb,_⟩;rw[hno e he]at hb;cases hb
   ·rintro⟨e,he,hb,_⟩;rw[hno e he]at hb;cases hb
  have e2:stR D (su s.S s.H D recs) res=canR (su s.S s.H D recs) res:=qzr fun re hre=>by
   obtain⟨o2,h1,_⟩:=htrR.at_ re hre;exact hall _ (List.getElem?_eq_some_iff.1 h1).1
  rw[e2]at hr;exact hQ sf a w σ ((hr.ext (e1.canR res)).ext hsf.symm) hk
 ·
  have e2:stR (fun _=>false) (su s.S s.H (fun _=>false) recs) res=su s.S s.H (fun _=>false) recs:=by
   have:=qnl (D:=fun _=>false) (s:=su s.S s.H (fun _=>false) recs) (m:=[]) (later:=res) fun _ _=>rfl
   rw[List.append_nil]at this;exact this
  refine⟨σ,?_⟩;rw[e2];have hpad:∀m:List En,(su s.S s.H (fun _=>false) m).S=s.S∧vw (su s.S s.H (fun _=>false) m).H=vw s.H:=by
   intro m
   induction m with
   |nil=>exact⟨rfl,rfl⟩
   |cons e m ih=>
    rw[qtq,if_neg (by simp)];exact⟨ih.1,(jp7 _ _).trans ih.2⟩
  obtain⟨h1,h2⟩:=hpad recs;have hr' :=hr.heapEq (w' :={w with drawn:=w.drawn+1}) rfl rfl rfl rfl;show ARel _ _ _ _ _ _ _ _ _ _;rw[h1,h2];exact hr'
end
end Go.K
namespace Go.K
open Go.M Go.RowKit
inductive Ann where
 | z
 | s (n : Nat)
 | d (c6 rs τ : List Nat)
 | one (a : Ann)
 | two (a b : Ann)
 | u (n : Nat) (a : Ann)
def Ann.l:Ann→Ann
 | .two a _=>a
 | .one a=>a
 |_=> .z
def Ann.r:Ann→Ann
 | .two _ b=>b
 |_=> .z
def Ann.sum:Ann→Option Nat
 | .s n=>some n
 |_=>none
def Ann.unr:Ann→Option (Nat×Ann)
 | .u n a=>some (n,a)
 |_=>none
def jdg:Code→List Bool→Code
 |c,[]=>c
 | .seq x _,false::p=>jdg x p
 | .seq _ y,true::p=>jdg y p
 | .cond _ x _,false::p=>jdg x p
 | .cond _ _ y,true::p=>jdg y p
 | .block _ x,_::p=>jdg x p
 | .loop x,_::p=>jdg x p
 |c,_=>c
def q6v(f:Func):Code:=match f.body with|some c=>c|none=> .skip
section
variable {R Rf : Type}
def jpy(X:Ctx Rf)(l:List Oper)(draw:Bool)(a:Ann)(s:TS)(k:TS→Option R):Option R:=
 match draw with
 |false=>jk0 X l l s k
 |true=>match a with| .d c6 rs τ=>jn0 X l c6 rs τ s k|_=>none
def jk7(f:TS→(TS→Option R)→Option R):Nat→TS→Option R
 |0,_=>none
 |n+1,s=>f s (jk7 f n)
def den(X:Ctx Rf):Code→Ann→TS→(TS→Option R)→(Nat→TS→Option R)→(Rf→Option R)→Option R
 |c,a,s,kn,ke,kr=>
  match a.sum with
  |some n=>
   match X.Λ n with
   |some σ=>match σ.dec s with|some x=>bnd (σ.m x) (fun o=>σ.cont x o kn ke kr)|none=>none
   |none=>none
  |none=>
   match c with
   | .skip=>kn s
   | .region _ ops d=>jpy X ops.toList d a s kn
   | .seq x y=>den X x a.l s (fun s' =>den X y a.r s' kn ke kr) ke kr
   | .cond c x y=>match evT X.N s.S c with| .bool g=>bif g then den X x a.l s kn ke kr else den X y a.r s kn ke kr|_=>none
   | .block id x=>den X x a.l s kn (fun id' s' =>bif Nat.beq id' id then kn s' else ke id' s') kr
   | .loop x=>match a.unr with|some (n,b)=>jk7 (fun s k=>den X x b s k ke kr) n s|none=>none
   | .exit id=>ke id s
   | .ret=>match X.res s with|some r=>kr r|none=>none
   |_=>none
end
section
variable {U : Nat → Prop} {w0 : World} {σ0 : Pl} {K : Nat → Bool} {N : Nat} {P : Program} {R Rf : Type}
def CW(P:Program)(U:Nat→Prop)(w0:World)(σ0:Pl)(K:Nat→Bool)(N:Nat)(c:Code)(Q:Exit→TS→Prop)(s:TS):Prop:=
 ∀a w σ,fy U w0 σ0 K N s a w σ→c.wp P (fun e a' w' =>∃s' σ',fy U w0 σ0 K N s' a' w' σ' ∧Q e s') a w
def jdn(X:Ctx Rf)(kn:TS→Option R)(ke:Nat→TS→Option R)(kr:Rf→Option R)(r:R):Exit→TS→Prop
 | .normal,s' =>kn s' =some r
 | .exit id,s' =>ke id s' =some r
 | .ret,s' =>∃x,X.res s' =some x∧kr x=some r
 |_,_=>False
def q89(X:Ctx Rf)(K:Nat→Bool):Prop:=∀t,cf X.kp t=false→K t=false
def ax(P:Program)(X:Ctx Rf)(n:Nat)(c:Code):Prop:=
 ∀σ,X.Λ n=some σ→∀(U:Nat→Prop) (w0:World) (σ0:Pl) (K:Nat→Bool),q89 X K→∀(R:Type) (s:TS) (x:σ.A) (o:σ.O) (kn:TS→Option R) (ke:Nat→TS→Option R) (kr:Rf→Option R) (r:R),
  σ.dec s=some x→σ.m x=some o→σ.cont x o kn ke kr=some r→CW P U w0 σ0 K X.N c (jdn X kn ke kr r) s
def v6:Code→Ann→List (Nat×Code)
 |c,a=>
  match a.sum with
  |some n=>[(n,c)]
  |none=>
   match c with
   | .seq x y=>v6 x a.l++v6 y a.r
   | .cond _ x y=>v6 x a.l++v6 y a.r
   | .block _ x=>v6 x a.l
   | .loop x=>match a.unr with|some (_,b)=>v6 x b|none=>[]
   |_=>[]
theorem jim{X:Ctx Rf}(hX:CtxOK P X)(hK:q89 X K){o:Oper}{s:TS}{k:TS→Option R}{r:R}(h:opT X o s k=some r){a:Act}{w:World}{σ:Pl}(hr:fy U w0 σ0 K X.N s a w σ){Q:Exit→Act→World→Prop}{KK:Act→World→Prop}
  (hKK:∀s' a' w' σ',fy U w0 σ0 K X.N s' a' w' σ' →k s' =some r→KK a' w'):o.wp P a w KK Q:=by
 unfold opT at h;obtain⟨δ,v,hk,hdo⟩:=q8x (F:=fun _=>True) hX hr (HLe.refl s.H) hK (fun x _=>hr.ev x) (fun _ _ _ _ _ _=>trivial) h;exact hdo Q KK fun a' w' σ' h' =>hKK _ a' w' σ' h' hk
theorem jk1{X:Ctx Rf}(hX:CtxOK P X)(hK:q89 X K){all:List Oper}{k:TS→Option R}{r:R}{Q:Exit→Act→World→Prop}(hQ:∀s' a' w' σ',fy U w0 σ0 K X.N s' a' w' σ' →k s' =some r→Q .normal a' w'):
  ∀(l:List Oper) (s:TS) (a:Act) (w:World) (σ:Pl),fy U w0 σ0 K X.N s a w σ→jk0 X all l s k=some r→wpList P all.toArray Q l a w:=by
 intro l
 induction l with
 |nil=>intro s a w σ hr h;exact hQ s a w σ hr h
 |cons o rest ih=>
  intro s a w σ hr h;unfold jk0 jlr at h;split at h
  ·rename_i hg;exact wpList_plain hg fun K' hK' =>jim hX hK h hr fun s' a' w' σ' h' hk=>hK' _ _ (ih s' a' w' σ' h' hk)
  ·rename_i g hg;obtain⟨S1,hext,hcase⟩:=qpt hg h;have hr1:fy U w0 σ0 K X.N ⟨S1,s.H⟩ a w σ:=fy.ext (s:=s) (s' :=⟨S1,s.H⟩) ⟨rfl,fun t=>(hext t).symm⟩ hr;refine wpList_step fun K' hK' => ?_
   rcases hcase with⟨hw,h1⟩|⟨hw,h1⟩
   ·rw[qdu hr hw];simp only[if_true];exact jim hX hK h1 hr1 fun s' a' w' σ' h' hk=>hK' _ _ (ih s' a' w' σ' h' hk)
   ·rw[qdu hr hw];simp only[Bool.false_eq_true,if_false];exact hK' _ _ (ih _ _ _ σ (hr1.put o.dst (A:= .undef) (v:=undef) (by simp[VR])) h1)
theorem jkv{X:Ctx Rf}(hX:CtxOK P X)(hmix:P.follows .mixedOrders=true)(hK:q89 X K){id:Nat}{l:List Oper}{d:Bool}{an:Ann}{s:TS}{k:TS→Option R}{r:R}(h:jpy X l d an s k=some r){Q:Exit→TS→Prop}(hQ:∀s',k s' =some r→Q .normal s'):
  CW P U w0 σ0 K X.N (.region id l.toArray d) Q s:=by
 intro a w σ hr;unfold jpy at h;split at h
 ·refine wp_region_lit ?_;exact jk1 hX hK (fun s' a' w' σ' h' hk=>⟨s',σ',h',hQ s' hk⟩) l s a w σ hr h
 ·split at h
  ·exact jka hX hmix hK h (fun s' a' w' σ' h' hk=>⟨s',σ',h',hQ s' hk⟩) hr
  ·cases h
theorem CW.mono{c:Code}{Q Q' :Exit→TS→Prop}{s:TS}(hq:∀e s,Q e s→Q' e s)(h:CW P U w0 σ0 K N c Q s):CW P U w0 σ0 K N c Q' s:=
 fun a w σ hr=>Code.wp_mono (fun _ _ _ ⟨s',σ',h1,h2⟩=>⟨s',σ',h1,hq _ _ h2⟩) (h a w σ hr)
theorem CW.loop{ι:Type}{body:Code}{Q:Exit→TS→Prop}(I:ι→TS)(ok:ι→Prop)(μ:ι→Nat)
  (round:∀i,ok i→∀a w σ,fy U w0 σ0 K N (I i) a w σ→body.wp P (fun e a' w' =>match e with| .normal=>∃j σ',ok j∧μ j<μ i∧fy U w0 σ0 K N (I j) a' w' σ' |e=>∃s' σ',fy U w0 σ0 K N s' a' w' σ' ∧Q e s') a w):
  ∀i0,ok i0→CW P U w0 σ0 K N (.loop body) Q (I i0):=by
 intro i0 h0 a w σ hr
 suffices H:∀n i a w σ,ok i→μ i=n→fy U w0 σ0 K N (I i) a w σ→∀b k cs,∃e a' w',(∃s' σ',fy U w0 σ0 K N s' a' w' σ' ∧Q e s')∧Arrives P (lone (b.at a (.code body:: .inLoop body::k)) cs w) b k cs e a' w' by
  intro b k cs;obtain⟨e,a',w',hq,harr⟩:=H (μ i0) i0 a w σ h0 rfl hr b k cs;exact⟨e,a',w',hq, .of_steps (.one step_loop) harr⟩
 intro n
 induction n using Nat.strongRecOn with
 |_ n ih=>
  intro i a w σ hok hn hrel b k cs;obtain⟨e,a₁,w₁,hq,harr⟩:=round i hok a w σ hrel b (.inLoop body::k) cs;cases e with
  |normal=>
   obtain⟨j,σ2,hj,hlt,hr2⟩:=hq;obtain⟨e,a',w',hq',harr'⟩:=ih (μ j) (hn▸hlt) j a₁ w₁ σ2 hj rfl hr2 b k cs;exact⟨e,a',w',hq', .of_steps (Steps.trans harr (.one step_inLoop)) harr'⟩
  |exit id=>exact⟨_,a₁,w₁,hq,fun k' hk=>harr k' (by simpa[exitTo]using hk)⟩
  |goto l=>exact⟨_,a₁,w₁,hq,fun k' hk=>harr k' (by simpa[gotoIn]using hk)⟩
  |ret=>exact⟨_,a₁,w₁,hq,harr⟩
  |panic chain=>exact⟨_,a₁,w₁,hq,harr⟩
  |outgrown=>exact⟨_,a₁,w₁,hq,harr⟩
theorem qq2{α β:Type}{m:Option α}{f:α→Option β}{r:β}(h:bnd m f=some r):∃x,m=some x∧f x=some r:=by
 cases m with
 |none=>cases h
 |some x=>exact⟨x,rfl,h⟩
theorem jcc{X:Ctx Rf}(hX:CtxOK P X)(hmix:P.follows .mixedOrders=true)(hK:q89 X K){r:R}:∀(c:Code) (a:Ann) (s:TS) (kn:TS→Option R) (ke:Nat→TS→Option R) (kr:Rf→Option R),
  (∀p∈v6 c a,ax P X p.1 p.2)→den X c a s kn ke kr=some r→CW P U w0 σ0 K X.N c (jdn X kn ke kr r) s:=by
 intro c
 induction c with
 |skip=>
  intro a s kn ke kr hs h;unfold den at h;split at h
  ·rename_i n hn;exact summ hs hn h
  ·exact fun a w σ hr=>wp_skip ⟨s,σ,hr,h⟩
 |region id ops d=>
  intro a s kn ke kr hs h;unfold den at h;split at h
  ·rename_i n hn;exact summ hs hn h
  ·have:=jkv (id:=id) (U:=U) (w0:=w0) (σ0:=σ0) hX hmix hK h (Q:=jdn X kn ke kr r) (fun s' hk=>hk);simpa using this
 |seq x y ihx ihy=>
  intro a s kn ke kr hs h;unfold den at h;split at h
  ·rename_i n hn;exact summ hs hn h
  ·rename_i hn;have hsum:v6 (.seq x y) a=v6 x a.l++v6 y a.r:=by conv=>lhs;unfold v6;simp only[hn]
   rw[hsum]at hs;have hx:=ihx a.l s _ ke kr (fun p hp=>hs p (List.mem_append_left _ hp)) h;intro a1 w1 σ1 hr;refine wp_seq (Code.wp_mono ?_ (hx a1 w1 σ1 hr));rintro e a' w' ⟨s',σ',h1,h2⟩;cases e with
   |normal=>exact ihy a.r s' kn ke kr (fun p hp=>hs p (List.mem_append_right _ hp)) h2 a' w' σ' h1
   |exit id=>exact⟨s',σ',h1,h2⟩
   |ret=>exact⟨s',σ',h1,h2⟩
   |_=>exact h2.elim
 |cond c x y ihx ihy=>
  intro a s kn ke kr hs h;unfold den at h;split at h
  ·rename_i n hn;exact summ hs hn h
  ·rename_i hn;have hsum:v6 (.cond c x y) a=v6 x a.l++v6 y a.r:=by conv=>lhs;unfold v6;simp only[hn]
   rw[hsum]at hs;simp only[]at h;split at h
   ·rename_i g hg;intro a1 w1 σ1 hr;have hv:=hr.ev c;rw[hg]at hv;simp only[VR]at hv;refine wp_cond_split hv (fun hb=> ?_) (fun hb=> ?_)
    ·subst hb;exact ihx a.l s kn ke kr (fun p hp=>hs p (List.mem_append_left _ hp)) h a1 w1 σ1 hr
    ·subst hb;exact ihy a.r s kn ke kr (fun p hp=>hs p (List.mem_append_right _ hp)) h a1 w1 σ1 hr
   ·cases h
 |block id x ih=>
  intro a s kn ke kr hs h;unfold den at h;split at h
  ·rename_i n hn;exact summ hs hn h
  ·rename_i hn;have hsum:v6 (.block id x) a=v6 x a.l:=by conv=>lhs;unfold v6;simp only[hn]
   rw[hsum]at hs;have hx:=ih a.l s _ _ kr hs h;intro a1 w1 σ1 hr;refine wp_block (Code.wp_mono ?_ (hx a1 w1 σ1 hr));rintro e a' w' ⟨s',σ',h1,hp⟩;cases e with
   |normal=>exact⟨s',σ',h1,hp⟩
   |exit id' =>
    have hk:(bif Nat.beq id' id then kn s' else ke id' s')=some r:=hp;simp only[Exit.inBlock];by_cases he:id' =id
    ·subst he;rw[if_pos rfl];simp only[Nat.beq_refl,cond_true]at hk;exact⟨s',σ',h1,hk⟩
    ·rw[if_neg he];rw[qf5 he]at hk;exact⟨s',σ',h1,hk⟩
   |ret=>exact⟨s',σ',h1,hp⟩
   |_=>exact hp.elim
 |exit id=>
  intro a s kn ke kr hs h;unfold den at h;split at h
  ·rename_i n hn;exact summ hs hn h
  ·exact fun a w σ hr=>wp_exit ⟨s,σ,hr,h⟩
 |ret=>
  intro a s kn ke kr hs h;unfold den at h;split at h
  ·rename_i n hn;exact summ hs hn h
  ·simp only[]at h;split at h
   ·rename_i x hx;exact fun a w σ hr=>wp_ret ⟨s,σ,hr,x,hx,h⟩
   ·cases h
 |loop x ih=>
  intro a s kn ke kr hs h;unfold den at h;split at h
  ·rename_i n hn;exact summ hs hn h
  ·rename_i hn;cases hu:a.unr with
   |none=>rw[hu]at h;cases h
   |some p=>
    obtain⟨n,b⟩:=p;rw[hu]at h;have hsum:v6 (.loop x) a=v6 x b:=by conv=>lhs;unfold v6;simp only[hn,hu]
    rw[hsum]at hs;refine CW.loop (ι:=Nat×TS) (fun p=>p.2) (fun p=>jk7 (fun s k=>den X x b s k ke kr) p.1 p.2=some r) (fun p=>p.1) ?_ (n,s) h;rintro⟨m,s1⟩ hm a1 w1 σ1 hr;cases m with
    |zero=>cases hm
    |succ m=>
     have hx:=ih b s1 (jk7 (fun s k=>den X x b s k ke kr) m) ke kr hs hm a1 w1 σ1 hr;refine Code.wp_mono ?_ hx;rintro e a' w' ⟨s',σ',h1,h2⟩;cases e with
     |normal=>exact⟨(m,s'),σ',h2,Nat.lt_succ_self m,h1⟩
     |exit id=>exact⟨s',σ',h1,h2⟩
     |ret=>exact⟨s',σ',h1,h2⟩
     |_=>exact h2.elim
 |_=>
  intro a s kn ke kr hs h;unfold den at h;split at h
  ·rename_i n hn;exact summ hs hn h
  ·cases h
 where
 summ {c:Code} {a:Ann} {s:TS} {kn:TS→Option R} {ke:Nat→TS→Option R} {kr:Rf→Option R} {n:Nat} (hs:∀p∈v6 c a,ax P X p.1 p.2) (hn:a.sum=some n)
   (h:(match X.Λ n with|some σ=>(match σ.dec s with|some x=>bnd (σ.m x) (fun o=>σ.cont x o kn ke kr)|none=>none)|none=>none)=some r):CW P U w0 σ0 K X.N c (jdn X kn ke kr r) s:=by
  have hm:(n,c)∈v6 c a:=by
   unfold v6;simp[hn]
  split at h
  ·rename_i σ hσ;split at h
   ·rename_i x hx;obtain⟨o,ho,hc⟩:=qq2 h;exact hs (n,c) hm σ hσ U w0 σ0 K hK R s x o kn ke kr r hx ho hc
   ·cases h
  ·cases h
end
end Go.K
namespace Go.K
open Go.M Go.RowKit
mutual
inductive Sh where
 | d (fr : Bool) (t : Ty)
 | rp (fr : Bool) (t : Ty)
 | own (i : Nat)
 | kid (i f : Nat)
 | ptr (i : Nat)
 | mp (i : Nat)
 | e
 | fn (f : FuncId) (l : ShL)
 | agg (l : ShL)
 | nl (b : Bool) (s : Sh)
inductive ShL where
 | nil
 | cons (s : Sh) (l : ShL)
end
inductive Hs where
 | arr (ty : TypeId) (md : Md) (its : List TypeId) (t : Ty)
 | cs (ty : TypeId) (sz n : Nat) (l : ShL)
 | mp (kt vt : Ty)
mutual
def Sh.den:Sh→Type
 | .d _ t=>t.den
 | .rp _ t=>t.den
 | .own _=>Unit
 | .kid _ _=>Nat
 | .ptr _=>Unit
 | .mp _=>Unit
 | .e=>Unit
 | .fn _ l=>l.den
 | .agg l=>l.den
 | .nl _ s=>s.den
def ShL.den:ShL→Type
 | .nil=>Unit
 | .cons s l=>s.den×l.den
end
def Hs.den:Hs→Type
 | .arr _ _ _ t=>List t.den
 | .cs _ _ _ l=>l.den
 | .mp kt vt=>List (kt.den×vt.den)
def q6d:List (Nat×Sh)→Type
 |[]=>Unit
 |p::l=>p.2.den×q6d l
def yb:List Hs→Type
 |[]=>Unit
 |p::l=>p.den×yb l
def jdk(fr:Bool):(t:Ty)→t.den→TV
 | .int k,n=> .int k n
 | .bool,b=> .bool b
 | .str,s=> .val (.string s)
 | .slice t,xs=> .sl fr t xs
 | .struct l,x=> .agg (l.cells fr x)
mutual
def Sh.enc:(s:Sh)→s.den→TV
 | .d fr t,x=>jdk fr t x
 | .rp fr t,x=> .rptr fr t [x] (.ofNat 0) 0
 | .own i,_=> .own (.o i)
 | .kid i f,x=> .own (.r i x f)
 | .ptr i,_=> .ptr (.o i) (.ofNat 0) 0
 | .mp i,_=> .mp (.o i)
 | .e,_=> .val (.slice none 0 0)
 | .fn f l,x=> .fn f (l.enc x)
 | .agg l,x=> .agg (l.enc x)
 | .nl b s,x=> .nl b (s.enc x)
def ShL.enc:(l:ShL)→l.den→List TV
 | .nil,_=>[]
 | .cons s l,x=>s.enc x.1::l.enc x.2
end
def ShL.len:ShL→Nat
 | .nil=>0
 | .cons _ l=>l.len+1
theorem ShL.enc_len:∀(l:ShL) (x:l.den),(l.enc x).length=l.len
 | .nil,_=>rfl
 | .cons s l,x=>by simp[ShL.enc,ShL.len,ShL.enc_len l x.2]
def Hs.enc:(h:Hs)→h.den→TOb
 | .arr ty md its t,xs=> .arr ty md its t xs
 | .cs ty sz n l,x=> .cs ty sz n (l.enc x)
 | .mp kt vt,es=> .mp kt vt es
def qkf:(l:List (Nat×Sh))→q6d l→List (Nat×TV)
 |[],_=>[]
 |p::l,x=>(p.1,p.2.enc x.1)::qkf l x.2
def f8:(l:List Hs)→yb l→List TOb
 |[],_=>[]
 |p::l,x=>p.enc x.1::f8 l x.2
structure Shp where
 sl : List (Nat × Sh)
 hp : List Hs
def Shp.den(h:Shp):Type:=q6d h.sl×yb h.hp
def Shp.enc(h:Shp)(x:h.den):TS:=⟨qkf h.sl x.1,f8 h.hp x.2⟩
abbrev Rho:=List (Option Nat)
def qb(tg:Nat):Rho→Bool
 |[]=>false
 |some t::l=>Nat.beq t tg||qb tg l
 |none::l=>qb tg l
def qmz:Rho→Bool
 |[]=>true
 |some t::l=> !qb t l&&qmz l
 |none::l=>qmz l
def q3m(fr fr' :Bool):Bool:= !fr||fr'
def jak(H:List TOb):TG→Option (Bool×(v:Ty)×List v.den)
 | .o t=>
  match H[t]? with
  |some (.arr _ md _ u xs)=>
   match md with
   | .fz fr=>some (fr||u.flat,⟨u,xs⟩)
   | .own=>some (true,⟨u,xs⟩)
   |_=>none
  |_=>none
 | .r t i f=>
  match H[t]? with
  |some (.arr _ .own _ u xs)=>
   match em u (xs.getD i u.dft) f with
   |some y=>some (true,y)
   |none=>none
  |_=>none
def qi9(bo:Bool)(ρ:Rho)(H:List TOb):TV→TV
 | .own T=>
  match jak H T with
  |some (fr,⟨u,xs⟩)=>bif !qb T.ob ρ then .sl (fr&& !bo) u xs else .any
  |none=> .any
 | .ownS T off n=>
  match jak H T with
  |some (fr,⟨u,xs⟩)=>bif !qb T.ob ρ then .sl (fr&& !bo) u ((xs.drop off).take n)else .any
  |none=> .any
 | .int k n=> .int k n
 | .bool b=> .bool b
 | .val u=> .val u
 | .e0=> .e0
 | .sl fr t xs=> .sl fr t xs
 |_=> .any
def qi8(bo:Bool)(ρ:Rho)(H:List TOb):List TV→List TV
 |[]=>[]
 |v::l=>qi9 bo ρ H v::qi8 bo ρ H l
def qgi(fr:Bool)(t:Ty)(cs:List TV):Option t.den:=
 match t.pack1 cs with
 |some (x,g)=>bif q3m fr g then some x else none
 |none=>none
def jnv(H:List TOb):TV→Option (Nat×Nat×Nat×List TV)
 | .own (.o tg)=>match H[tg]? with|some (.cs _ sz n cs)=>some (tg,sz,n,cs)|_=>none
 |_=>none
def jnz(fr:Bool)(t:Ty)(n:Nat)(cs:List TV):Option (List t.den):=
 match t.packN n cs with
 |some (xs,g)=>bif q3m fr g then some xs else none
 |none=>none
def jqj(bo:Bool)(ρ:Rho)(H:List TOb)(fr:Bool):(t:Ty)→TV→Option t.den
 | .struct l,v=>match v with| .agg cs=>qgi fr (.struct l) (qi8 bo ρ H cs)|_=>none
 | .int k,v=>qgi fr (.int k) [v]
 | .bool,v=>qgi fr .bool [v]
 | .str,v=>qgi fr .str [v]
 | .slice t,v=>
  match jnv H v with
  |some (tg,sz,n,cs)=>bif !qb tg ρ&&Nat.beq sz t.sz&&q3m fr (!bo)then jnz fr t n (qi8 bo ρ H cs)else none
  |none=>qgi fr (.slice t) [qi9 bo ρ H v]
def jqg{t u:Ty}(h:t=u)(x:t.den):u.den:=h▸x
def jhk(bo:Bool)(ρ:Rho)(H:List TOb)(fr:Bool)(t:Ty):TV→Option t.den
 | .rptr fr' t' [x] (.ofNat 0) 0=>match t'.eq? t with|some ⟨h⟩=>bif q3m fr fr' then some (jqg h x)else none|none=>none
 | .ptr (.o tg) (.ofNat 0) 0=>
  match H[tg]? with
  |some (.cs _ sz n cs)=>bif !qb tg ρ&&Nat.beq n 1&&Nat.beq sz t.sz&&q3m fr (!bo)then qgi fr t (qi8 bo ρ H cs)else none
  |_=>none
 |_=>none
mutual
def Sh.dec(bo:Bool)(ρ:Rho)(H:List TOb):(s:Sh)→TV→Option s.den
 | .d fr t,v=>jqj bo ρ H fr t v.st
 | .rp fr t,v=>jhk bo ρ H fr t v.st
 | .own i,v=>
  match v.st with
  | .own (.o tg)=>match ρ[i]? with|some (some t)=>bif Nat.beq t tg then some ()else none|_=>none
  | .val (.slice none 0 0)=>match ρ[i]? with|some none=>some ()|_=>none
  | .e0=>match ρ[i]? with|some none=>some ()|_=>none
  |_=>none
 | .kid i f,v=>
  match v.st with
  | .own (.r tg j f')=>match ρ[i]? with|some (some t)=>bif Nat.beq t tg&&Nat.beq f' f then some j else none|_=>none
  |_=>none
 | .ptr i,v=>
  match v.st with
  | .ptr (.o tg) (.ofNat 0) 0=>match ρ[i]? with|some (some t)=>bif Nat.beq t tg then some ()else none|_=>none
  |_=>none
 | .mp i,v=>
  match v.st with
  | .mp (.o tg)=>match ρ[i]? with|some (some t)=>bif Nat.beq t tg then some ()else none|_=>none
  |_=>none
 | .e,v=>match v.st with| .val (.slice none 0 0)=>some ()|_=>none
 | .fn f l,v=>match v.st with| .fn f' cs=>bif Nat.beq f' f then l.dec bo ρ H cs else none|_=>none
 | .agg l,v=>match v.st with| .agg cs=>l.dec bo ρ H cs|_=>none
 | .nl b s,v=>bif v.isN b then s.dec bo ρ H v.st else none
def ShL.dec(bo:Bool)(ρ:Rho)(H:List TOb):(l:ShL)→List TV→Option l.den
 | .nil,cs=>match cs with|[]=>some ()|_=>none
 | .cons s l,cs=>
  match cs with
  |v::r=>match s.dec bo ρ H v with|some x=>(match l.dec bo ρ H r with|some y=>some (x,y)|none=>none)|none=>none
  |[]=>none
end
def jam:Md→Md→Bool
 | .fz fr, .fz fr' =>q3m fr fr'
 | .own, .own=>true
 |_,_=>false
def jf0:List TypeId→List TypeId→Bool
 |[],[]=>true
 |a::l,b::m=>Nat.beq a b&&jf0 l m
 |_,_=>false
def jlm:Md→Bool
 | .fz _=>true
 | .own=>true
 |_=>false
def jqh{kt vt kt' vt' :Ty}(h1:kt' =kt)(h2:vt' =vt)(es:List (kt'.den×vt'.den)):List (kt.den×vt.den):=h1▸h2▸es
def Hs.dec(bo:Bool)(ρ:Rho)(H:List TOb)(o:Option Nat):(h:Hs)→Option h.den
 | .arr ty md its t=>
  match o with
  |none=>bif jlm md then some ([]:List t.den)else none
  |some tg=>
   match H[tg]? with
   |some (.arr ty' md' its' t' xs)=>match t'.eq? t with|some ⟨h⟩=>bif Nat.beq ty' ty&&jam md md' &&jf0 its' its then some (qbr h xs)else none|none=>none
   |_=>none
 | .cs ty sz n l=>
  match o with
  |none=>none
  |some tg=>
   match H[tg]? with
   |some (.cs ty' sz' n' ws)=>bif Nat.beq ty' ty&&Nat.beq sz' sz&&Nat.beq n' n&&Nat.blt 0 n then l.dec bo ρ H ws else none
   |_=>none
 | .mp kt vt=>
  match o with
  |none=>none
  |some tg=>
   match H[tg]? with
   |some (.mp kt' vt' es)=>
    match kt'.eq? kt,vt'.eq? vt with
    |some ⟨h1⟩,some ⟨h2⟩=>some (jqh h1 h2 es)
    |_,_=>none
   |_=>none
def jes(bo:Bool)(ρ:Rho)(s:TS):(l:List (Nat×Sh))→Option (q6d l)
 |[]=>some ()
 |p::l=>match p.2.dec bo ρ s.H (cw s.S p.1)with|some x=>(match jes bo ρ s l with|some y=>some (x,y)|none=>none)|none=>none
def qi6(bo:Bool)(ρ:Rho)(H:List TOb):Rho→(l:List Hs)→Option (yb l)
 |[],[]=>some ()
 |o::os,p::l=>match p.dec bo ρ H o with|some x=>(match qi6 bo ρ H os l with|some y=>some (x,y)|none=>none)|none=>none
 |_,_=>none
mutual
def Sh.fnd:Sh→TV→Rho→Rho
 | .own i,v,ρ=>match v.st with| .own (.o tg)=>ρ.set i (some tg)|_=>ρ
 | .kid i _,v,ρ=>match v.st with| .own (.r tg _ _)=>ρ.set i (some tg)|_=>ρ
 | .ptr i,v,ρ=>match v.st with| .ptr (.o tg) _ _=>ρ.set i (some tg)|_=>ρ
 | .mp i,v,ρ=>match v.st with| .mp (.o tg)=>ρ.set i (some tg)|_=>ρ
 | .fn _ l,v,ρ=>match v.st with| .fn _ cs=>l.fnd cs ρ|_=>ρ
 | .agg l,v,ρ=>match v.st with| .agg cs=>l.fnd cs ρ|_=>ρ
 | .nl _ s,v,ρ=>s.fnd v.st ρ
 |_,_,ρ=>ρ
def ShL.fnd:ShL→List TV→Rho→Rho
 | .cons s l,v::r,ρ=>l.fnd r (s.fnd v ρ)
 |_,_,ρ=>ρ
end
def jlq(S:List (Nat×TV)):List (Nat×Sh)→Rho→Rho
 |[],ρ=>ρ
 |p::l,ρ=>jlq S l (p.2.fnd (cw S p.1) ρ)
def jd6(H:List TOb):Nat→List Hs→Rho→Rho
 |_,[],ρ=>ρ
 |i, .cs _ _ _ l::hs,ρ=>jd6 H (i+1) hs (match ρ[i]? with|some (some tg)=>(match H[tg]? with|some (.cs _ _ _ cs)=>l.fnd cs ρ|_=>ρ)|_=>ρ)
 |i,_::hs,ρ=>jd6 H (i+1) hs ρ
def jlo:Nat→List Bool→Rho→Rho
 |_,[],ρ=>ρ
 |t,k::kp,ρ=>jlo (t+1) kp (bif k then ρ.set t (some t)else ρ)
def jf3:Nat→List Bool→Rho→Bool
 |_,[],_=>true
 |t,true::kp,ρ=>(match ρ[t]? with|some (some t')=>Nat.beq t' t|_=>false)&&jf3 (t+1) kp ρ
 |t,false::kp,ρ=>jf3 (t+1) kp ρ
def jnx(N:Nat)(kp:List Bool)(p:Nat)(s:TS):TS:=
 match cw s.S p with
 | .ownS (.o t) off n=>
  match s.H[t]? with
  |some (.arr ty (.fz fr) its u xs)=>bif !cf kp t&&Nat.blt p N&&Nat.blt 0 u.sz then⟨(p, .own (.o t))::sbS (bn t) s.S,(dk (bn t) s.H).set t (.arr ty (.fz fr) its u ((xs.drop off).take n))⟩else s
  |_=>s
 |_=>s
def jhj(N:Nat)(kp:List Bool):List (Nat×Sh)→TS→TS
 |[],s=>s
 |(p, .own _)::l,s=>jhj N kp l (jnx N kp p s)
 |_::l,s=>jhj N kp l s
def jnw(kp:List Bool)(tb j:Nat)(s:TS):TS:=
 match s.H[tb]? with
 |some (.cs ty sz n cs)=>
  match cs.getD j .any with
  | .ownS (.o t) off m=>
   match s.H[t]? with
   |some (.arr ty2 (.fz fr) its u xs)=>
    bif !cf kp t&&Nat.beq n 1&&Nat.blt j sz&& !Nat.beq t tb&&Nat.blt 0 u.sz then⟨sbS (bn t) s.S,((dk (bn t) s.H).set t (.arr ty2 (.fz fr) its u ((xs.drop off).take m))).set tb (.cs ty sz n ((TV.sbL (bn t) cs).set j (.own (.o t))))⟩else s
   |_=>s
  |_=>s
 |_=>s
def jh3:TV→Bool
 | .ownS _ _ _=>true
 |_=>false
def jd0(kp:List Bool)(tb:Nat):Nat→List TV→TS→TS
 |_,[],s=>s
 |j,v::l,s=>jd0 kp tb (j+1) l (bif jh3 v then jnw kp tb j s else s)
def jd1(kp:List Bool):Nat→List TOb→TS→TS
 |_,[],s=>s
 |tb, .cs _ _ _ cs::l,s=>jd1 kp (tb+1) l (jd0 kp tb 0 cs s)
 |tb,_::l,s=>jd1 kp (tb+1) l s
def jhv:List Hs→Bool
 |[]=>false
 | .cs _ _ _ _::_=>true
 |_::l=>jhv l
def jfl(N:Nat)(kp:List Bool)(h:Shp)(s:TS):TS:=bif jhv h.hp then jd1 kp 0 s.H (jhj N kp h.sl s)else jhj N kp h.sl s
def Shp.rho(kp:List Bool)(h:Shp)(s:TS):Rho:=jd6 s.H 0 h.hp (jlq s.S h.sl (jlo 0 kp (List.replicate h.hp.length none)))
def Shp.decR(bo:Bool)(h:Shp)(s:TS)(ρ:Rho):Option h.den:=
 bif qmz ρ then
  match jes bo ρ s h.sl with
  |some x=>(match qi6 bo ρ s.H ρ h.hp with|some y=>some (x,y)|none=>none)
  |none=>none
 else none
def Shp.dec(N:Nat)(kp:List Bool)(h:Shp)(s:TS):Option h.den:=
 bif jf3 0 kp (h.rho kp (jfl N kp h s))then h.decR false (jfl N kp h s) (h.rho kp (jfl N kp h s))else none
end Go.K
namespace Go.K
open Go.M Go.RowKit
variable {F : Nat → Prop}
theorem qiw{tg:Nat}:∀{ρ:Rho},qb tg ρ=true↔some tg∈ρ
 |[]=>by simp[qb]
 |some t::l=>by
  simp only[qb,Bool.or_eq_true,List.mem_cons,Option.some.injEq,qiw (ρ:=l)];exact⟨fun h=>h.imp (fun e=>(bc e).symm) id,fun h=>h.imp (fun e=>by rw[e];exact Nat.beq_refl _) id⟩
 |none::l=>by
  simp only[qb,List.mem_cons,reduceCtorEq,false_or,qiw (ρ:=l)]
theorem qez{tg:Nat}{ρ:Rho}:qb tg ρ=false↔some tg∉ρ:=by
 rw[←qiw (ρ:=ρ)];cases qb tg ρ<;>simp
theorem qwd:∀{ρ:Rho},qmz ρ=true→∀{i j tg:Nat},ρ[i]? =some (some tg)→ρ[j]? =some (some tg)→i=j
 |[],_,i,j,tg,h,_=>by simp at h
 |some t::l,hok,i,j,tg,h1,h2=>by
  simp only[qmz,Bool.and_eq_true,Bool.not_eq_true']at hok;cases i with
  |zero=>
   cases j with
   |zero=>rfl
   |succ j=>
    simp at h1;subst h1;exact absurd (List.mem_of_getElem? (show l[j]? =some (some t) by simpa using h2)) (qez.1 hok.1)
  |succ i=>
   cases j with
   |zero=>
    simp at h2;subst h2;exact absurd (List.mem_of_getElem? (show l[i]? =some (some t) by simpa using h1)) (qez.1 hok.1)
   |succ j=>rw[qwd hok.2 (i:=i) (j:=j) (by simpa using h1) (by simpa using h2)]
 |none::l,hok,i,j,tg,h1,h2=>by
  cases i with
  |zero=>simp at h1
  |succ i=>
   cases j with
   |zero=>simp at h2
   |succ j=>rw[qwd (ρ:=l) hok (i:=i) (j:=j) (by simpa using h1) (by simpa using h2)]
def p9(ρ:Rho)(σ:Pl):Pl:=fun T=>match ρ[T.ob]? with|some (some tg)=>σ (T.at tg)|_=>none
theorem qaz{ρ:Rho}{σ:Pl}{T:TG}{p:Nat×Nat}(h:p9 ρ σ T=some p):∃tg,ρ[T.ob]? =some (some tg)∧σ (T.at tg)=some p:=by
 unfold p9 at h;split at h
 ·rename_i tg e;exact⟨tg,e,h⟩
 ·cases h
theorem qdf{ρ:Rho}{σ:Pl}{T:TG}{tg:Nat}(h:ρ[T.ob]? =some (some tg)):p9 ρ σ T=σ (T.at tg):=by simp only[p9,h]
section
variable {U U' : Nat → Prop} {w0 : World} {σ0 : Pl} {K : Nat → Bool} {H Hv H' : List TOb} {w : World} {σ : Pl} {ρ : Rho} {bo : Bool}
structure Cv (U U' : Nat → Prop) (w0 : World) (σ0 : Pl) (K : Nat → Bool) (H Hv H' : List TOb) (w : World) (σ : Pl) (ρ : Rho) (bo : Bool) : Prop where
 hr : HR U w0 σ0 K (vw H) w σ
 le : HLe (fun _ => False) Hv H
 ok : qmz ρ = true
 u : ∀ b, U' b → U b ∨ gm σ b
 nb : bo = false → ∀ b, U' b → U b
 dim : ∀ i tg, ρ[i]? = some (some tg) → aj (vw H') (.o i) = aj (vw H) (.o tg)
 nil : ∀ i, ρ[i]? = some none → ∃ sz, aj (vw H') (.o i) = some (0, sz)
 kdim : ∀ i tg, ρ[i]? = some (some tg) → ∀ j f q, aj (vw H) (.r tg j f) = some q → aj (vw H') (.r i j f) = some q
theorem Cv.x(_h:Cv U U' w0 σ0 K H Hv H' w σ ρ bo){b:Nat}(hb:gm (p9 ρ σ) b):gm σ b:=by
 obtain⟨T,o,hT⟩:=hb;obtain⟨tg,_,h2⟩:=qaz hT;exact⟨_,o,h2⟩
theorem Cv.low(h:Cv U U' w0 σ0 K H Hv H' w σ ρ bo)(fr:Bool):Low w (YY (gm σ) U fr) w (YY (gm (p9 ρ σ)) U' fr):=by
 refine⟨Nat.le_refl _,fun b _ hY hY' =>hY ?_,fun _ _ _=>rfl⟩;rcases hY' with e|⟨e1,e2⟩
 ·exact .inl (h.x e)
 ·rcases h.u b e2 with e|e
  ·exact .inr ⟨e1,e⟩
  ·exact .inl e
theorem Cv.out(h:Cv U U' w0 σ0 K H Hv H' w σ ρ bo){T:TG}(hT:qb T.ob ρ=false){g o:Nat}(hσ:σ T=some (g,o)){fr:Bool}(hf:fr=true→bo=false):¬YY (gm (p9 ρ σ)) U' fr g:=by
 rintro(⟨T',o',hT'⟩|⟨e1,e2⟩)
 ·obtain⟨tg,h1,h2⟩:=qaz hT';have:=h.hr.inj _ _ _ _ _ hσ h2;rw[this,TG.at_ob]at hT;exact qez.1 hT (List.mem_of_getElem? h1)
 ·exact(h.hr.own _ _ _ hσ).1 (h.nb (hf e1) g e2)
theorem Cv.row(h:Cv U U' w0 σ0 K H Hv H' w σ ρ bo){T:TG}{fr:Bool}{u:Ty}{xs:List u.den}(hl:jak Hv T=some (fr,⟨u,xs⟩))(hT:qb T.ob ρ=false):
  (∀q,aj (vw H) T=some q→q=(xs.length,u.sz))∧∀g o,σ T=some (g,o)→qki w (YY (gm (p9 ρ σ)) U' (fr&& !bo)) u xs g o:=by
 have hfb:(fr&& !bo)=true→bo=false:=fun e=>by simp only[Bool.and_eq_true,Bool.not_eq_true']at e;exact e.2
 have hlow:∀fr0,((fr&& !bo)=true→fr0=true)→Low w (YY (gm σ) U fr0) w (YY (gm (p9 ρ σ)) U' (fr&& !bo)):=by
  intro fr0 h0;refine⟨Nat.le_refl _,fun b hb hY hY' =>(h.low (fr&& !bo)).ex b hb (fun hY2=>hY ?_) hY',fun _ _ _=>rfl⟩;rcases hY2 with e|⟨e1,e2⟩
  ·exact .inl e
  ·exact .inr ⟨h0 e1,e2⟩
 cases T with
 |o t=>
  simp only[jak]at hl;split at hl
  ·rename_i ty md its u' xs' hov;have ho:=h.le.ob hov;split at hl
   ·rename_i fr';simp only[Option.some.injEq,Prod.mk.injEq,Sigma.mk.injEq]at hl;obtain⟨rfl,rfl,hx⟩:=hl;have hx:=eq_of_heq hx;subst hx;refine⟨fun q hq=>by simp only[aj,az ho,Option.map_some,Option.some.injEq]at hq;exact hq.symm,fun g o hσ=> ?_⟩;have hob:=h.hr.obj _ _ (az ho);rw[hσ]at hob;refine OR.row hob (h.hr.lt hσ) (h.out hT hσ hfb) rfl rfl fun j f hj hf y hV=> ?_
    simp only[nk]at hV;have hC:=(Ty.C_iff (gr U (vw H) w σ) fr' u' _ f y hf).2 hV;by_cases hfl:u'.flat=true
    ·exact Ty.C_flat u' _ f y hfl hC
    ·refine Ty.C_low (hlow fr' (fun e=> ?_)) u' _ f y hC;simp only[Bool.and_eq_true,Bool.or_eq_true]at e;exact e.1.resolve_right hfl
   ·simp only[Option.some.injEq,Prod.mk.injEq,Sigma.mk.injEq]at hl;obtain⟨rfl,rfl,hx⟩:=hl;have hx:=eq_of_heq hx;subst hx;refine⟨fun q hq=>by simp only[aj,az ho,Option.map_some,Option.some.injEq]at hq;exact hq.symm,fun g o hσ=> ?_⟩;have hob:=h.hr.obj _ _ (az ho);rw[hσ]at hob;refine OR.row hob (h.hr.lt hσ) (h.out hT hσ hfb) rfl rfl fun j f hj hf y hV=> ?_
    exact jh8 h.hr ho (hlow true fun _=>rfl) (fun i f g o hk=>h.out (T:= .r t i f) hT hk hfb) hj hf hV
   ·cases hl
  ·cases hl
 |r t i f=>
  simp only[jak]at hl;split at hl
  ·rename_i ty its u' xs' hov;have ho:=h.le.ob hov;split at hl
   ·rename_i y hin;simp only[Option.some.injEq,Prod.mk.injEq]at hl;obtain⟨rfl,rfl⟩:=hl;have hinfo:∀q,aj (vw H) (.r t i f)=some q→i<xs'.length∧q=(xs.length,u.sz):=by
     intro q hq;simp only[aj,lq ho]at hq;split at hq
     ·rename_i hc;rw[hin]at hq;simp only[kv,Option.map_some,Option.some.injEq]at hq;exact⟨hc.2,hq.symm⟩
     ·cases hq
    refine⟨fun q hq=>(hinfo q hq).2,fun g o hσ=> ?_⟩;obtain⟨v,hv⟩:=h.hr.dom _ _ hσ;have hi:=(hinfo _ (by simp only[aj,hv];rfl)).1;exact qzn h.hr ho rfl (hlow true fun _=>rfl) hi hin hσ (h.out (T:= .r t i f) hT hσ hfb)
   ·cases hl
  ·cases hl
theorem Cv.lend(h:Cv U U' w0 σ0 K H Hv H' w σ ρ bo):∀(A:TV) (v:Value),VR (gr U (vw H) w σ) A v→VR (gr U' (vw H') w (p9 ρ σ)) (qi9 bo ρ Hv A) v
 | .own T,v,hv=>by
  simp only[qi9];split
  ·rename_i fr u xs hl;cases hb:qb T.ob ρ with
   |true=>simp[hb,VR]
   |false=>
    obtain⟨h1,h2⟩:=h.row hl hb;obtain⟨n,sz,hI,hs⟩:=hv;have:=h1 _ hI;simp only[Prod.mk.injEq]at this;obtain⟨rfl,rfl⟩:=this;have h3:=SlR.fz (off:=0) (n:=xs.length) (by omega) h2 hs;simp only[List.drop_zero,List.take_length]at h3;exact h3
  ·trivial
 | .ownS T off m,v,hv=>by
  simp only[qi9];split
  ·rename_i fr u xs hl;cases hb:qb T.ob ρ with
   |true=>simp[hb,VR]
   |false=>
    obtain⟨h1,h2⟩:=h.row hl hb;obtain⟨n,sz,hI,hle,hs⟩:=hv;have:=h1 _ hI;simp only[Prod.mk.injEq]at this;obtain⟨rfl,rfl⟩:=this;exact SlR.fz hle h2 hs
  ·trivial
 | .int k n,v,hv=>hv
 | .bool b,v,hv=>hv
 | .val u,v,hv=>hv
 | .e0,v,hv=>hv
 | .sl fr t xs,v,hv=>Ty.C_low (h.low fr) (.slice t) xs 0 v hv
 | .any,_,_=>trivial
 | .rptr _ _ _ _ _,_,_=>trivial
 | .ptr _ _ _,_,_=>trivial
 | .mp _,_,_=>trivial
 | .fn _ _,_,_=>trivial
 | .agg _,_,_=>trivial
 | .tup _,_,_=>trivial
 | .cond _ _,_,_=>trivial
 | .nl _ _,_,_=>trivial
theorem qrr(bo:Bool)(ρ:Rho)(H:List TOb):∀(cs:List TV) (j:Nat),(qi8 bo ρ H cs).getD j .any=qi9 bo ρ H (cs.getD j .any)
 |[],j=>by simp[qi8,qi9]
 |v::l,0=>by simp[qi8]
 |v::l,j+1=>by simpa[qi8]using qrr bo ρ H l j
theorem q5m(bo:Bool)(ρ:Rho)(H:List TOb):∀(cs:List TV),(qi8 bo ρ H cs).length=cs.length
 |[]=>rfl
 |v::l=>by simp[qi8,q5m bo ρ H l]
theorem qrb{fr g:Bool}(h:q3m fr g=true):fr=true→g=true:=by
 intro e;subst e;simpa[q3m]using h
theorem qna{G:Gr}{fr:Bool}{t:Ty}{cs:List TV}{x:t.den}(h:qgi fr t cs=some x):cs.length=t.sz∧∀f,f<t.sz→∀y,VR G (cs.getD f .any) y→VR G ((t.cells fr x).getD f .any) y:=by
 unfold qgi at h;split at h
 ·rename_i x' g hp;obtain⟨hb,h⟩:=ak h;cases h;obtain⟨h1,h2⟩:=Ty.pack1_ok (G:=G) hp;exact⟨h1,fun f hf y hy=>(Ty.C_iff G fr t x f y hf).1 (Ty.C_fr (qrb hb) (h2 f hf y hy))⟩
 ·cases h
theorem jj8(h:Cv U U' w0 σ0 K H Hv H' w σ ρ bo){fr:Bool}:∀{t:Ty} {A:TV} {x:t.den},jqj bo ρ Hv fr t A=some x→∀{v:Value},VR (gr U (vw H) w σ) A v→VR (gr U' (vw H') w (p9 ρ σ)) (jdk fr t x) v
 | .struct l,A,x,hd,v,hv=>by
  cases A
  case agg cs=>
   have hd:qgi fr (.struct l) (qi8 bo ρ Hv cs)=some x:=hd;obtain⟨h1,h2⟩:=qna (G:=gr U' (vw H') w (p9 ρ σ)) hd;obtain⟨vs,rfl,hvs,h3⟩:=hv;rw[q5m]at h1;refine⟨vs,rfl,jr.of ?_ (fun j B y hB hy=> ?_),h3⟩
   ·rw[hvs.len,h1];exact(TyL.cells_len fr l x).symm
   ·have hj:j<(Ty.struct l).sz:=by
     have:=(List.getElem?_eq_some_iff.1 hB).1;exact Nat.lt_of_lt_of_eq this (TyL.cells_len fr l x)
    obtain⟨y',hy',hV⟩:=hvs.getD j (by omega);rw[hy]at hy';cases hy';have h4:=h2 j hj y (by rw[qrr];exact h.lend _ _ hV);have e:(Ty.cells fr (.struct l) x).getD j .any=B:=by
     have hB' :(Ty.cells fr (.struct l) x)[j]? =some B:=hB;rw[List.getD_eq_getElem?_getD,hB'];rfl
    rw[e]at h4;exact h4
  all_goals cases hd
 | .int k,A,x,hd,v,hv=>by
  have hd:qgi fr (.int k) [A]=some x:=hd;have hd' :qgi fr (.int k) [qi9 bo ρ Hv A]=some x:=by
   cases A<;>first|exact hd|(simp[qgi,Ty.pack1,Ty.pack]at hd)
  exact(qna (G:=gr U' (vw H') w (p9 ρ σ)) hd').2 0 (by simp[Ty.sz]) v (h.lend _ _ hv)
 | .bool,A,x,hd,v,hv=>by
  have hd:qgi fr .bool [A]=some x:=hd;have hd' :qgi fr .bool [qi9 bo ρ Hv A]=some x:=by
   cases A<;>first|exact hd|(simp[qgi,Ty.pack1,Ty.pack]at hd)
  exact(qna (G:=gr U' (vw H') w (p9 ρ σ)) hd').2 0 (by simp[Ty.sz]) v (h.lend _ _ hv)
 | .str,A,x,hd,v,hv=>by
  have hd:qgi fr .str [A]=some x:=hd;have hd' :qgi fr .str [qi9 bo ρ Hv A]=some x:=by
   cases A<;>first|exact hd|(simp[qgi,Ty.pack1,Ty.pack]at hd)
  exact(qna (G:=gr U' (vw H') w (p9 ρ σ)) hd').2 0 (by simp[Ty.sz]) v (h.lend _ _ hv)
 | .slice t,A,x,hd,v,hv=>by
  have hd:(match jnv Hv A with|some (tg,sz,n,cs)=>bif !qb tg ρ&&Nat.beq sz t.sz&&q3m fr (!bo)then jnz fr t n (qi8 bo ρ Hv cs)else none|none=>qgi fr (.slice t) [qi9 bo ρ Hv A])=some x:=hd;split at hd
  ·rename_i tg sz n cs hcs;have hb:=(ak hd).1
   replace hd:=(ak hd).2
   simp only[Bool.and_eq_true,Bool.not_eq_true']at hb;obtain⟨⟨hb1,hb2⟩,hb3⟩:=hb;unfold jnv at hcs;split at hcs
   ·rename_i tg';split at hcs
    ·rename_i ty sz' n' cs' hov;simp only[Option.some.injEq,Prod.mk.injEq]at hcs;obtain⟨rfl,rfl,rfl,rfl⟩:=hcs;have ho:=h.le.obc hov;have hsz:=bc hb2;subst hsz;unfold jnz at hd;split at hd
     ·rename_i xs g hpk;have hg:=(ak hd).1;have hx:xs=x:=Option.some.inj (ak hd).2;clear hd;subst hx;obtain⟨q1,q2,q3⟩:=Ty.packN_ok (G:=gr U' (vw H') w (p9 ρ σ)) hpk;have hO:vw H (.o tg')=some ⟨ty,t.sz,n',fun i f=>cs'.getD (i*t.sz+f) .any⟩:=by simp[vw,ho,vwO]
      obtain⟨m,sz2,hI,hs⟩:=hv;have hI' :aj (vw H) (.o tg')=some (m,sz2):=hI;simp only[aj,hO,Option.map_some,Option.some.injEq,Prod.mk.injEq]at hI';obtain⟨rfl,rfl⟩:=hI';have hrow:∀g' o,σ (.o tg')=some (g',o)→qki w (YY (gm (p9 ρ σ)) U' fr) t xs g' o:=by
       intro g' o hσ;have hob:=h.hr.obj _ _ hO;rw[hσ]at hob;refine OR.row hob (h.hr.lt hσ) (h.out (T:= .o tg') hb1 hσ (fun e=>by simpa[q3m,e]using hb3)) rfl q1.symm fun i f hi hf y hV=> ?_
       have h1:=q3 i f (by omega) hf y (by rw[qrr];exact h.lend _ _ hV);exact Ty.C_fr (G:=gr U' (vw H') w (p9 ρ σ)) (qrb hg) h1
      have h3:=SlR.fz (off:=0) (n:=xs.length) (by omega) hrow (by rw[q1];exact hs);simp only[List.drop_zero,List.take_length]at h3;exact h3
     ·cases hd
    ·cases hcs
   ·cases hcs
  ·exact(qna (G:=gr U' (vw H') w (p9 ρ σ)) (show qgi fr (.slice t) [qi9 bo ρ Hv A]=some x from hd)).2 0 (by simp[Ty.sz]) v (h.lend _ _ hv)
end
end Go.K
namespace Go.K
open Go.M Go.RowKit
section
variable {U U' : Nat → Prop} {w0 : World} {σ0 : Pl} {K : Nat → Bool} {H Hv H' : List TOb} {w : World} {σ : Pl} {ρ : Rho} {bo : Bool}
theorem jhl(h:Cv U U' w0 σ0 K H Hv H' w σ ρ bo){fr:Bool}{t:Ty}{A:TV}{x:t.den}(hd:jhk bo ρ Hv fr t A=some x){v:Value}(hv:VR (gr U (vw H) w σ) A v):VR (gr U' (vw H') w (p9 ρ σ)) (.rptr fr t [x] (.ofNat 0) 0) v:=by
 unfold jhk at hd;split at hd
 ·rename_i fr' t' x';split at hd
  ·rename_i he _;obtain⟨hb,hd⟩:=ak hd;subst he;cases hd;obtain⟨b,o,rfl,hrow⟩:=hv;refine⟨b,o,rfl,?_⟩;refine qki.low (w:=w) (w' :=w) ⟨Nat.le_refl _,fun b hb' hY hY' =>(h.low fr).ex b hb' (fun hY2=>hY ?_) hY',fun _ _ _=>rfl⟩ hrow;rcases hY2 with e|⟨e1,e2⟩
   ·exact .inl e
   ·exact .inr ⟨qrb hb e1,e2⟩
  ·cases hd
 ·rename_i tg;split at hd
  ·rename_i ty sz n cs hov;have hb:=(ak hd).1
   replace hd:=(ak hd).2
   simp only[Bool.and_eq_true,Bool.not_eq_true']at hb;obtain⟨⟨⟨hb1,hb2⟩,hb3⟩,hb4⟩:=hb;have hn:=bc hb2;have hsz:=bc hb3;subst hn;subst hsz;obtain⟨h1,h2⟩:=qna (G:=gr U' (vw H') w (p9 ρ σ)) hd;obtain⟨g,o,n,sz,hσ,hI,rfl⟩:=hv;have hvw:=qal (h.le.obc hov);have hI' :aj (vw H) (.o tg)=some (n,sz):=hI;simp only[aj,hvw,Option.map_some,Option.some.injEq,Prod.mk.injEq]at hI';obtain⟨rfl,rfl⟩:=hI';have hob:=h.hr.obj _ _ hvw;have hσ' :σ (.o tg)=some (g,o):=hσ;rw[hσ']at hob;refine⟨g,o,rfl,h.hr.lt hσ',h.out (T:= .o tg) hb1 hσ' (fun e=>by have:=qrb hb4 e;simpa using this),fun i f hi hf=> ?_⟩;obtain rfl:i=0:=by simpa using hi
   obtain⟨cur,c,hc1,hc2,hc3,hc4⟩:=hob.cells (.inr (Nat.zero_lt_one));obtain⟨y,hy,h3,hV⟩:=hc4 0 f (by simp) hf;refine⟨y,?_,h3,?_⟩
   ·have hc1' :w.heap[g]? =some (.cells cur ty (0,0)):=hc1;show w.cell? _=_;rw[cell_of_row _ _ _ cur ty (0,0) hc1'];exact hy
   ·simp only[List.getD_cons_zero];refine(Ty.C_iff (gr U' (vw H') w (p9 ρ σ)) fr t x f y hf).2 (h2 f hf y ?_);rw[qrr];refine h.lend _ _ ?_;simpa using hV
  ·cases hd
 ·cases hd
theorem VR.st{G:Gr}{A:TV}{v:Value}(h:VR G A v):VR G A.st v:=by
 cases A<;>first|exact h|exact h.1
mutual
theorem Sh.dec_ok(h:Cv U U' w0 σ0 K H Hv H' w σ ρ bo):∀(s:Sh) (A:TV) (x:s.den),s.dec bo ρ Hv A=some x→∀v,VR (gr U (vw H) w σ) A v→VR (gr U' (vw H') w (p9 ρ σ)) (s.enc x) v
 | .d fr t,A,x,hd,v,hv=>jj8 h hd hv.st
 | .rp fr t,A,x,hd,v,hv=>jhl h hd hv.st
 | .own i,A,x,hd,v,hv=>by
  have nilCase:ρ[i]? =some none→(∃a,v= .slice a 0 0)→VR (gr U' (vw H') w (p9 ρ σ)) (.own (.o i)) v:=by
   rintro hi ⟨a,rfl⟩;obtain⟨sz,hs⟩:=h.nil i hi;exact⟨0,sz,hs, .inl ⟨a,rfl,rfl⟩⟩
  unfold Sh.dec at hd
  replace hv:=hv.st
  generalize A.st=A' at hd hv;split at hd
  ·rename_i tg;split at hd
   ·rename_i t hi;obtain⟨hb,hd⟩:=ak hd;have hb:=bc hb;subst hb;obtain⟨n,sz,hI,hs⟩:=hv;refine⟨n,sz,(h.dim i t hi).trans hI,?_⟩;rcases hs with hs|⟨g,o,c,cur,e,hσ,h1,h2,h3,h4,h5⟩
    ·exact .inl hs
    ·exact .inr ⟨g,o,c,cur,e,(qdf (T:= .o i) hi).trans hσ,h1,h2,h3,h4,h5⟩
   ·cases hd
  ·split at hd
   ·rename_i hi;exact nilCase hi ⟨none,hv⟩
   ·cases hd
  ·split at hd
   ·rename_i hi;exact nilCase hi hv
   ·cases hd
  ·cases hd
 | .kid i f,A,x,hd,v,hv=>by
  unfold Sh.dec at hd
  replace hv:=hv.st
  generalize A.st=A' at hd hv;split at hd
  ·rename_i tg j f';split at hd
   ·rename_i t hi;have hbd:=ak hd;clear hd;obtain⟨hb,hd2⟩:=hbd;simp only[Bool.and_eq_true]at hb;have hb1:=bc hb.1;have hb2:=bc hb.2;subst hb1;subst hb2;cases hd2;obtain⟨n,sz,hI,hs⟩:=hv;refine⟨n,sz,h.kdim i t hi j f' _ hI,?_⟩;rcases hs with hs|⟨g,o,c,cur,e,hσ,h1,h2,h3,h4,h5⟩
    ·exact .inl hs
    ·exact .inr ⟨g,o,c,cur,e,(qdf (T:= .r i j f') hi).trans hσ,h1,h2,h3,h4,h5⟩
   ·cases hd
  ·cases hd
 | .ptr i,A,x,hd,v,hv=>by
  unfold Sh.dec at hd
  replace hv:=hv.st
  generalize A.st=A' at hd hv;split at hd
  ·rename_i tg;split at hd
   ·rename_i t hi;obtain⟨hb,hd⟩:=ak hd;have hb:=bc hb;subst hb;obtain⟨g,o,n,sz,hσ,hI,h1⟩:=hv;exact⟨g,o,n,sz,(qdf (T:= .o i) hi).trans hσ,(h.dim i t hi).trans hI,h1⟩
   ·cases hd
  ·cases hd
 | .e,A,x,hd,v,hv=>by
  unfold Sh.dec at hd
  replace hv:=hv.st
  generalize A.st=A' at hd hv;split at hd
  ·exact hv
  ·cases hd
 | .mp i,A,x,hd,v,hv=>by
  unfold Sh.dec at hd
  replace hv:=hv.st
  generalize A.st=A' at hd hv;split at hd
  ·rename_i tg;split at hd
   ·rename_i t hi;obtain⟨hb,hd⟩:=ak hd;have hb:=bc hb;subst hb;obtain⟨g,o,q,hσ,hI,h1⟩:=hv;exact⟨g,o,q,(qdf (T:= .o i) hi).trans hσ,(h.dim i t hi).trans hI,h1⟩
   ·cases hd
  ·cases hd
 | .fn f l,A,x,hd,v,hv=>by
  unfold Sh.dec at hd
  replace hv:=hv.st
  generalize A.st=A' at hd hv;split at hd
  ·rename_i f' cs;obtain⟨hb,hd⟩:=ak hd;have hb:=bc hb;subst hb;obtain⟨vs,h1,h2⟩:=hv;exact⟨vs,h1,ShL.dec_ok h l cs x hd vs h2⟩
  ·cases hd
 | .nl b s,A,x,hd,v,hv=>by
  unfold Sh.dec at hd;obtain⟨hb,hd⟩:=ak hd;exact⟨Sh.dec_ok h s _ x hd v hv.st,jfx hb hv⟩
 | .agg l,A,x,hd,v,hv=>by
  replace hv:=hv.st
  unfold Sh.dec at hd;generalize A.st=A at hd hv;cases A
  case agg cs=>
   have hd:l.dec bo ρ Hv cs=some x:=hd;obtain⟨vs,h1,h2,h3⟩:=hv;exact⟨vs,h1,ShL.dec_ok h l cs x hd vs h2,h3⟩
  all_goals cases hd
theorem ShL.dec_ok(h:Cv U U' w0 σ0 K H Hv H' w σ ρ bo):∀(l:ShL) (cs:List TV) (x:l.den),l.dec bo ρ Hv cs=some x→∀vs,jr (gr U (vw H) w σ) cs vs→jr (gr U' (vw H') w (p9 ρ σ)) (l.enc x) vs
 | .nil,cs,x,hd,vs,hv=>by
  unfold ShL.dec at hd;split at hd
  ·exact hv
  ·cases hd
 | .cons s l,cs,x,hd,vs,hv=>by
  unfold ShL.dec at hd;split at hd
  ·rename_i A r;split at hd
   ·rename_i x1 hx;split at hd
    ·rename_i y hy;cases hd;obtain⟨u,m,rfl,h1,h2⟩:=hv;exact⟨u,m,rfl,Sh.dec_ok h s A x1 hx u h1,ShL.dec_ok h l r y hy m h2⟩
    ·cases hd
   ·cases hd
  ·cases hd
end
theorem ShL.dec_at(h:Cv U U' w0 σ0 K H Hv H' w σ ρ bo):∀(l:ShL) (cs:List TV) (x:l.den),l.dec bo ρ Hv cs=some x→∀(j:Nat) v,VR (gr U (vw H) w σ) (cs.getD j .any) v→VR (gr U' (vw H') w (p9 ρ σ)) ((l.enc x).getD j .any) v
 | .nil,cs,x,hd,j,v,hv=>by simp[ShL.enc,VR]
 | .cons s l,cs,x,hd,j,v,hv=>by
  unfold ShL.dec at hd;split at hd
  ·rename_i A r;split at hd
   ·rename_i x1 hx;split at hd
    ·rename_i y hy;cases hd;cases j with
     |zero=>simpa[ShL.enc]using Sh.dec_ok h s A x1 hx v (by simpa using hv)
     |succ j=>simpa[ShL.enc]using ShL.dec_at h l r y hy j v (by simpa using hv)
    ·cases hd
   ·cases hd
  ·cases hd
end
section
variable {bo : Bool} {ρ : Rho} {H : List TOb}
theorem qrd:∀(os:Rho) (l:List Hs) (y:yb l),qi6 bo ρ H os l=some y→os.length=l.length∧(f8 l y).length=l.length∧∀(i:Nat) o,os[i]? =some o→∃(hs:Hs) (xi:hs.den),hs.dec bo ρ H o=some xi∧(f8 l y)[i]? =some (hs.enc xi)
 |[],[],y,h=>⟨rfl,rfl,fun i o ho=>by simp at ho⟩
 |[],p::l,y,h=>by simp[qi6]at h
 |o::os,[],y,h=>by simp[qi6]at h
 |o::os,p::l,y,h=>by
  unfold qi6 at h;split at h
  ·rename_i x hx;split at h
   ·rename_i y' hy;cases h;obtain⟨h1,h2,h3⟩:=qrd os l y' hy;refine⟨by simp[h1],by simp[f8,h2],fun i o' ho=> ?_⟩;cases i with
    |zero=>
     simp at ho;subst ho;exact⟨p,x,hx,by simp[f8]⟩
    |succ i=>
     obtain⟨hs,xi,e1,e2⟩:=h3 i o' (by simpa using ho);exact⟨hs,xi,e1,by simpa[f8]using e2⟩
   ·cases h
  ·cases h
theorem jd8:∀{a b:List TypeId},jf0 a b=true→a=b
 |[],[],_=>rfl
 |[],b::m,h=>by simp[jf0]at h
 |a::l,[],h=>by simp[jf0]at h
 |a::l,b::m,h=>by
  simp only[jf0,Bool.and_eq_true]at h;rw[bc h.1,jd8 h.2]
theorem Hs.dec_cases{hs:Hs}{o:Option Nat}{xi:hs.den}(h:hs.dec bo ρ H o=some xi):
  (o=none∧∃ty md its t,jlm md=true∧hs.enc xi= .arr ty md its t [])∨
  (∃tg ty md md' its t xs,o=some tg∧H[tg]? =some (.arr ty md' its t xs)∧jam md md' =true∧hs.enc xi= .arr ty md its t xs)∨
  (∃tg ty sz n l cs x,o=some tg∧H[tg]? =some (.cs ty sz n cs)∧ShL.dec bo ρ H l cs=some x∧0<n∧hs.enc xi= .cs ty sz n (l.enc x))∨
  (∃tg kt vt es,o=some tg∧H[tg]? =some (.mp kt vt es)∧hs.enc xi= .mp kt vt es):=by
 cases hs with
 |arr ty md its t=>
  unfold Hs.dec at h;simp only[]at h;split at h
  ·obtain⟨hb,h⟩:=ak h;cases h;exact .inl ⟨rfl,ty,md,its,t,hb,rfl⟩
  ·rename_i tg;split at h
   ·rename_i ty' md' its' t' xs hov;split at h
    ·rename_i he _;obtain⟨hb,h⟩:=ak h;subst he;cases h;simp only[Bool.and_eq_true]at hb;have e1:=bc hb.1.1;have e2:=jd8 hb.2;subst e1;subst e2;exact .inr (.inl ⟨tg,_,md,md',_,_,xs,rfl,hov,hb.1.2,rfl⟩)
    ·cases h
   ·cases h
 |cs ty sz n l=>
  unfold Hs.dec at h;simp only[]at h;split at h
  ·cases h
  ·rename_i tg;split at h
   ·rename_i ty' sz' n' ws hov;obtain⟨hb,h⟩:=ak h;simp only[Bool.and_eq_true]at hb;have e1:=bc hb.1.1.1;have e2:=bc hb.1.1.2;have e3:=bc hb.1.2;subst e1;subst e2;subst e3;exact .inr (.inr (.inl ⟨tg,_,_,_,l,ws,xi,rfl,hov,h,fp hb.2,rfl⟩))
   ·cases h
 |mp kt vt=>
  unfold Hs.dec at h;simp only[]at h;split at h
  ·cases h
  ·rename_i tg;split at h
   ·rename_i kt' vt' es hov;split at h
    ·rename_i h1 h2 _ _;subst h1;subst h2;cases h;exact .inr (.inr (.inr ⟨tg,_,_,es,rfl,hov,rfl⟩))
    ·cases h
   ·cases h
end
end Go.K
