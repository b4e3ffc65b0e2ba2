/-
  A typed machine over the model's memory (part KD). No program is named.
-/
import Derived.Test.YteljgpepodpebaaGreatZ3KC
set_option linter.all false
namespace Go.K
open Go.M Go.RowKit
structure Ext (s s' : TS) : Prop where
 H : s.H = s'.H
 S : ∀ t, bt s.S t = bt s'.S t
theorem Ext.refl(s:TS):Ext s s:=⟨rfl,fun _=>rfl⟩
theorem Ext.symm{s s' :TS}(h:Ext s s'):Ext s' s:=⟨h.H.symm,fun t=>(h.S t).symm⟩
theorem Ext.trans{s s' s'' :TS}(h:Ext s s')(h' :Ext s' s''):Ext s s'' :=⟨h.H.trans h'.H,fun t=>(h.S t).trans (h'.S t)⟩
theorem Ext.ap{s s' :TS}(h:Ext s s')(x:St):Ext (s.ap x) (s'.ap x):=by
 refine⟨by simp only[TS.ap,h.H],fun t=> ?_⟩;cases x with
 |sb θ=>simp only[TS.ap,sAp,gc,h.S]
 |set t o=>exact h.S _
 |new t o=>exact h.S _
theorem Ext.aps{s s' :TS}(h:Ext s s'):∀δ:List St,Ext (s.aps δ) (s'.aps δ)
 |[]=>h
 |x::δ=>Ext.aps (h.ap x) δ
theorem iy{S:List (Nat×TV)}{d:Option Tmp}{v:TV}{t:Nat}:bt (q1h S d v) t=if d=some t then v else bt S t:=by
 cases d with
 |none=>rfl
 |some d=>simp only[q1h,nr,Option.some.injEq]
theorem il(s:TS)(d:Option Tmp)(v:TV):s.put d v=⟨q1h s.S d v,s.H⟩:=by cases d<;>rfl
theorem Ext.put{s s' :TS}(h:Ext s s')(d:Option Tmp)(v:TV):Ext (s.put d v) (s'.put d v):=by
 rw[il,il];exact⟨h.H,fun t=>by simp only[iy,h.S]⟩
section
variable {U : Nat → Prop} {w0 : World} {σ0 : Pl} {K : Nat → Bool} {N : Nat}
theorem d5.ext{s s' :TS}(h:Ext s s'){a:Act}{w:World}{σ:Pl}(hr:d5 U w0 σ0 K N s a w σ):d5 U w0 σ0 K N s' a w σ:=by
 have e:bt s.S=bt s'.S:=funext h.S;show ARel _ _ _ _ _ _ _ _ _ _;rw[←e,←h.H];exact hr
end
theorem ji8{N:Nat}{S S' :List (Nat×TV)}(h:∀t,bt S t=bt S' t):evT N S=evT N S' :=by
 funext x;cases x with
 |tmp t=>simp only[evT,rd,h]
 |_=>rfl
mutual
def Wk:TV→TV→Prop
 |_, .any=>True
 | .fn f l, .fn g m=>f=g∧WkL l m
 | .agg l, .agg m=>WkL l m
 | .tup l, .tup m=>WkL l m
 | .cond c a, .cond c' b=>c=c' ∧Wk a b
 | .nl a b, .nl c d=>a=c∧Wk b d
 |a,b=>a=b
def WkL:List TV→List TV→Prop
 |[],[]=>True
 |a::l,b::m=>Wk a b∧WkL l m
 |_,_=>False
end
mutual
theorem Wk.vr{G:Gr}:∀(A B:TV) (v:Value),Wk A B→VR G A v→VR G B v
 |A, .any,v,_,_=>trivial
 | .fn f l, .fn g m,v,h,hv=>by
  obtain⟨rfl,h⟩:=h;obtain⟨vs,hl,hc⟩:=hv;exact⟨vs,hl,WkL.vr l m vs h hc⟩
 | .agg l, .agg m,v,h,hv=>by
  obtain⟨vs,hl,hc,h1⟩:=hv;exact⟨vs,hl,WkL.vr l m vs h hc,h1⟩
 | .tup l, .tup m,v,h,hv=>by
  obtain⟨vs,hl,hc⟩:=hv;exact⟨vs,hl,WkL.vr l m vs h hc⟩
 | .cond c a, .cond c' b,v,h,hv=>by
  obtain⟨rfl,h⟩:=h;unfold VR at hv⊢;split
  ·rename_i hc;rw[if_pos hc]at hv;exact Wk.vr a b v h hv
  ·rename_i hc;rw[if_neg hc]at hv;exact hv
 | .nl a b, .nl c d,v,h,hv=>by
  obtain⟨rfl,h⟩:=h;exact⟨Wk.vr b d v h hv.1,hv.2⟩
 |A, .int k n,v,h,hv=>by cases A<;>simp only[Wk]at h<;>first|(cases h;done)|(cases h;exact hv)|(rw[h]at hv;exact hv)
 |A, .bool b,v,h,hv=>by cases A<;>simp only[Wk]at h<;>first|(cases h;done)|(cases h;exact hv)|(rw[h]at hv;exact hv)
 |A, .val u,v,h,hv=>by cases A<;>simp only[Wk]at h<;>first|(cases h;done)|(cases h;exact hv)|(rw[h]at hv;exact hv)
 |A, .e0,v,h,hv=>by cases A<;>simp only[Wk]at h<;>first|(cases h;done)|(cases h;exact hv)|(rw[h]at hv;exact hv)
 |A, .sl fr t xs,v,h,hv=>by cases A<;>simp only[Wk]at h<;>first|(cases h;done)|(cases h;exact hv)|(rw[h]at hv;exact hv)
 |A, .rptr fr t xs i f,v,h,hv=>by cases A<;>simp only[Wk]at h<;>first|(cases h;done)|(cases h;exact hv)|(rw[h]at hv;exact hv)
 |A, .dm fr kt vt es,v,h,hv=>by cases A<;>simp only[Wk]at h<;>first|(cases h;done)|(cases h;exact hv)|(rw[h]at hv;exact hv)
 |A, .own T,v,h,hv=>by cases A<;>simp only[Wk]at h<;>first|(cases h;done)|(cases h;exact hv)|(rw[h]at hv;exact hv)
 |A, .ownS T off n,v,h,hv=>by cases A<;>simp only[Wk]at h<;>first|(cases h;done)|(cases h;exact hv)|(rw[h]at hv;exact hv)
 |A, .mp T,v,h,hv=>by cases A<;>simp only[Wk]at h<;>first|(cases h;done)|(cases h;exact hv)|(rw[h]at hv;exact hv)
 |A, .ptr T i f,v,h,hv=>by cases A<;>simp only[Wk]at h<;>first|(cases h;done)|(cases h;exact hv)|(rw[h]at hv;exact hv)
theorem WkL.vr{G:Gr}:∀(l m:List TV) (vs:List Value),WkL l m→iw G l vs→iw G m vs
 |[],[],vs,_,hv=>hv
 |a::l,b::m,vs,h,hv=>by
  obtain⟨u,r,rfl,h1,h2⟩:=hv;exact⟨u,r,rfl,Wk.vr a b u h.1 h1,WkL.vr l m r h.2 h2⟩
 |[],b::m,vs,h,_=>h.elim
 |a::l,[],vs,h,_=>h.elim
end
mutual
theorem Wk.refl:∀(A:TV),Wk A A
 | .any=>trivial
 | .fn f l=>⟨rfl,WkL.refl l⟩
 | .agg l=>WkL.refl l
 | .tup l=>WkL.refl l
 | .cond c a=>⟨rfl,Wk.refl a⟩
 | .nl _ a=>⟨rfl,Wk.refl a⟩
 | .int _ _=>rfl
 | .bool _=>rfl
 | .val _=>rfl
 | .e0=>rfl
 | .sl _ _ _=>rfl
 | .rptr _ _ _ _ _=>rfl
 | .dm _ _ _ _=>rfl
 | .own _=>rfl
 | .ownS _ _ _=>rfl
 | .ptr _ _ _=>rfl
 | .mp _=>rfl
theorem WkL.refl:∀(l:List TV),WkL l l
 |[]=>trivial
 |a::l=>⟨Wk.refl a,WkL.refl l⟩
end
mutual
theorem Wk.kill{θ:TG→Ac}(hθ:∀T,θ T= .id∨θ T= .kill):∀(A:TV),Wk A (A.sb θ)
 | .any=>trivial
 | .fn f l=>⟨rfl,WkL.kill hθ l⟩
 | .agg l=>WkL.kill hθ l
 | .tup l=>WkL.kill hθ l
 | .cond c a=>⟨rfl,Wk.kill hθ a⟩
 | .nl _ a=>⟨rfl,Wk.kill hθ a⟩
 | .int _ _=>rfl
 | .bool _=>rfl
 | .val _=>rfl
 | .e0=>rfl
 | .sl _ _ _=>rfl
 | .rptr _ _ _ _ _=>rfl
 | .dm _ _ _ _=>rfl
 | .own T=>by rcases hθ T with e|e<;>simp[TV.sb,e,Wk]
 | .ownS T _ _=>by rcases hθ T with e|e<;>simp[TV.sb,e,Wk]
 | .mp T=>by rcases hθ T with e|e<;>simp[TV.sb,e,Wk]
 | .ptr T _ _=>by rcases hθ T with e|e<;>simp[TV.sb,e,Wk]
theorem WkL.kill{θ:TG→Ac}(hθ:∀T,θ T= .id∨θ T= .kill):∀(l:List TV),WkL l (TV.sbL θ l)
 |[]=>trivial
 |a::l=>⟨Wk.kill hθ a,WkL.kill hθ l⟩
end
theorem qg3{a:Ac}(h:a.isId=true):a= .id:=by cases a<;>simp_all[Ac.isId]
mutual
theorem Wk.sb{θ:TG→Ac}:∀(A B:TV),Wk A B→B.all (fun T=>(θ T).isId)=true→Wk (A.sb θ) B
 |A, .any,_,_=>by cases A<;>first|trivial|(simp only[TV.sb];first|trivial|(split<;>trivial))
 | .fn f l, .fn g m,h,ha=>⟨h.1,WkL.sb l m h.2 ha⟩
 | .agg l, .agg m,h,ha=>WkL.sb l m h ha
 | .tup l, .tup m,h,ha=>WkL.sb l m h ha
 | .cond c a, .cond c' b,h,ha=>⟨h.1,Wk.sb a b h.2 ha⟩
 | .nl _ a, .nl _ b,h,ha=>⟨h.1,Wk.sb a b h.2 ha⟩
 |A, .int k n,h,ha=>by cases A<;>simp only[Wk]at h<;>first|(cases h;done)|exact h
 |A, .bool b,h,ha=>by cases A<;>simp only[Wk]at h<;>first|(cases h;done)|exact h
 |A, .val u,h,ha=>by cases A<;>simp only[Wk]at h<;>first|(cases h;done)|exact h
 |A, .e0,h,ha=>by cases A<;>simp only[Wk]at h<;>first|(cases h;done)|trivial
 |A, .sl fr t xs,h,ha=>by cases A<;>simp only[Wk]at h<;>first|(cases h;done)|exact h
 |A, .rptr fr t xs i f,h,ha=>by cases A<;>simp only[Wk]at h<;>first|(cases h;done)|exact h
 |A, .dm fr kt vt es,h,ha=>by cases A<;>simp only[Wk]at h<;>first|(cases h;done)|exact h
 |A, .own T,h,ha=>by cases A<;>simp only[Wk]at h<;>first|(cases h;done)|(cases h;simp only[TV.all]at ha;simp only[TV.sb,qg3 ha,Wk])
 |A, .ownS T off n,h,ha=>by cases A<;>simp only[Wk]at h<;>first|(cases h;done)|(cases h;simp only[TV.all]at ha;simp only[TV.sb,qg3 ha,Wk])
 |A, .mp T,h,ha=>by cases A<;>simp only[Wk]at h<;>first|(cases h;done)|(cases h;simp only[TV.all]at ha;simp only[TV.sb,qg3 ha,Wk])
 |A, .ptr T i f,h,ha=>by cases A<;>simp only[Wk]at h<;>first|(cases h;done)|(cases h;simp only[TV.all]at ha;simp only[TV.sb,qg3 ha,Wk])
theorem WkL.sb{θ:TG→Ac}:∀(l m:List TV),WkL l m→TV.allL (fun T=>(θ T).isId) m=true→WkL (TV.sbL θ l) m
 |[],[],_,_=>trivial
 |a::l,b::m,h,ha=>by
  simp only[TV.allL,Bool.and_eq_true]at ha;exact⟨Wk.sb a b h.1 ha.1,WkL.sb l m h.2 ha.2⟩
 |[],b::m,h,_=>h.elim
 |a::l,[],h,_=>h.elim
end
mutual
theorem jc8{θ:TG→Ac}:∀(A:TV),A.all (fun T=>(θ T).isId)=true→A.sb θ=A
 | .any,_=>rfl
 | .fn f l,h=>by simp only[TV.sb,qrb l h]
 | .agg l,h=>by simp only[TV.sb,qrb l h]
 | .tup l,h=>by simp only[TV.sb,qrb l h]
 | .cond c a,h=>by simp only[TV.sb,jc8 a h]
 | .nl _ a,h=>by simp only[TV.sb,jc8 a h]
 | .int _ _,_=>rfl
 | .bool _,_=>rfl
 | .val _,_=>rfl
 | .e0,_=>rfl
 | .sl _ _ _,_=>rfl
 | .rptr _ _ _ _ _,_=>rfl
 | .dm _ _ _ _,_=>rfl
 | .own T,h=>by simp only[TV.all]at h;simp only[TV.sb,qg3 h]
 | .ownS T _ _,h=>by simp only[TV.all]at h;simp only[TV.sb,qg3 h]
 | .ptr T _ _,h=>by simp only[TV.all]at h;simp only[TV.sb,qg3 h]
 | .mp T,h=>by simp only[TV.all]at h;simp only[TV.sb,qg3 h]
theorem qrb{θ:TG→Ac}:∀(l:List TV),TV.allL (fun T=>(θ T).isId) l=true→TV.sbL θ l=l
 |[],_=>rfl
 |a::l,h=>by
  simp only[TV.allL,Bool.and_eq_true]at h;simp only[TV.sbL,jc8 a h.1,qrb l h.2]
end
theorem jj5{θ:TG→Ac}(o:TOb)(h:o.all (fun T=>(θ T).isId)=true):o.sb θ=o:=by
 cases o with
 |cs ty sz n l=>simp only[TOb.sb,qrb l h]
 |_=>rfl
theorem ja8{p:TG→Bool}:∀{H:List TOb},ja7 p H=true→∀(t:Nat) o,H[t]? =some o→o.all p=true
 |[],_,t,o,h=>by simp at h
 |a::l,hp,t,o,h=>by
  simp only[ja7,Bool.and_eq_true]at hp;cases t with
  |zero=>simp at h;subst h;exact hp.1
  |succ t=>exact ja8 hp.2 t o (by simpa using h)
theorem jj4{θ:TG→Ac}:∀(H:List TOb),ja7 (fun T=>(θ T).isId) H=true→cz θ H=H
 |[],_=>rfl
 |o::l,h=>by
  simp only[ja7,Bool.and_eq_true]at h;simp only[cz,jj5 o h.1,jj4 l h.2]
theorem q4e{k:Nat}:∀{l:List Nat},ry k l=true↔k∈l
 |[]=>by simp[ry]
 |a::l=>by
  unfold ry;cases e:Nat.beq a k with
  |true=>simp[a8 e]
  |false=>
   have:a≠k:=fun e' =>by rw[e',Nat.beq_refl]at e;cases e
   simp only[cond_false,List.mem_cons,q4e (l:=l)];exact⟨.inr,fun h=>h.elim (fun e' =>absurd e'.symm this) id⟩
theorem q4f{k:Nat}{l:List Nat}:ry k l=false↔k∉l:=by
 rw[←q4e (l:=l)];cases ry k l<;>simp
theorem jos(z:List Nat)(T:TG):je2 z T= .id∨je2 z T= .kill:=by
 cases T with
 |o t=>simp only[je2];cases ry t z<;>simp
 |r t i f=>simp only[je2];cases ry t z<;>simp
theorem qcj(z:List Nat)(A:TV):Wk A (qmc z A):=by
 cases z with
 |nil=>exact Wk.refl A
 |cons a z=>exact Wk.kill (jos _) A
theorem jf6(z:List Nat):∀(H:List TOb) (k t:Nat) ob,(q09 z k H)[t]? =some ob→ob= .gone∨(H[t]? =some ob∧(k+t)∉z)
 |[],k,t,ob,h=>by simp[q09]at h
 |o::l,k,0,ob,h=>by
  simp only[q09,List.getElem?_cons_zero,Option.some.injEq]at h;cases hb:ry k z with
  |true=>rw[hb]at h;exact .inl h.symm
  |false=>
   rw[hb]at h;exact .inr ⟨by simpa using h,q4f.1 hb⟩
 |o::l,k,t+1,ob,h=>by
  simp only[q09,List.getElem?_cons_succ]at h;have:=jf6 z l (k+1) t ob h;rw[show k+1+t=k+(t+1) by omega]at this;simpa using this
theorem ja1(z:List Nat):∀(H:List TOb) (k:Nat),(q09 z k H).length=H.length
 |[],_=>rfl
 |o::l,k=>by simp[q09,ja1 z l]
theorem jf5{z:List Nat}{H:List TOb}{t:Nat}{ob:TOb}(h:(qta z H)[t]? =some ob):ob= .gone∨(H[t]? =some ob∧t∉z):=by
 cases z with
 |nil=>exact .inr ⟨h,by simp⟩
 |cons a z=>simpa using jf6 (a::z) H 0 t ob h
theorem q0a(z:List Nat)(H:List TOb):(qta z H).length=H.length:=by
 cases z with
 |nil=>rfl
 |cons a z=>exact ja1 _ H 0
theorem q4s{t:Nat}:∀{k n:Nat},t∈places n k↔n≤t∧t<n+k
 |0,n=>by simp only[places,List.not_mem_nil,false_iff];omega
 |k+1,n=>by
  simp only[places,List.mem_cons,q4s (k:=k)];omega
def qjj:Nat→List TOb→List TOb→List TOb
 |_,[],H=>H
 |n,o::l,H=>qjj (n+1) l (H.set n o)
theorem qbh:∀(l:List TOb) (n:Nat) (H:List TOb),(qjj n l H).length=H.length
 |[],_,_=>rfl
 |o::l,n,H=>by simp[qjj,qbh l]
theorem qcw:∀(l:List TOb) (n:Nat) (H:List TOb),n+l.length≤H.length→∀t,(qjj n l H)[t]? =if n≤t∧t<n+l.length then l[t-n]? else H[t]?
 |[],n,H,_,t=>by simp only[qjj,List.length_nil];rw[if_neg (by omega)]
 |o::l,n,H,h,t=>by
  simp only[List.length_cons]at h;simp only[qjj,List.length_cons];rw[qcw l (n+1) (H.set n o) (by simp;omega) t];by_cases e:t=n
  ·subst e;rw[if_neg (by omega),if_pos (by omega),List.getElem?_set_self (by omega)];simp
  ·rw[List.getElem?_set_ne (Ne.symm e)];by_cases h1:n+1≤t∧t<n+1+l.length
   ·rw[if_pos h1,if_pos (by omega),show t-n=(t-(n+1))+1 by omega,List.getElem?_cons_succ]
   ·rw[if_neg h1,if_neg (by omega)]
theorem q4k:∀{δ:List St} {n:Nat} {obs:List TOb},qdj n δ=some obs→∀t o,St.new t o∈δ→n≤t∧t<n+obs.length
 |[],n,obs,h,t,o,hm=>by simp at hm
 | .new t' o' ::δ,n,obs,h,t,o,hm=>by
  simp only[qdj]at h;obtain⟨hb,h⟩:=ag h;split at h
  ·rename_i r hr;cases h;have:=a8 hb;rcases List.mem_cons.1 hm with e|hm
   ·cases e;simp;omega
   ·have:=q4k hr t o hm;simp;omega
  ·cases h
 | .sb θ::δ,n,obs,h,t,o,hm=>by simp[qdj]at h
 | .set t' o' ::δ,n,obs,h,t,o,hm=>by simp[qdj]at h
theorem jd2:∀{δ:List St} {n:Nat} {obs:List TOb} (s:TS),qdj n δ=some obs→n+obs.length≤s.H.length→s.aps δ=⟨s.S,qjj n obs s.H⟩
 |[],n,obs,s,h,_=>by simp only[qdj,Option.some.injEq]at h;subst h;rfl
 | .new t' o' ::δ,n,obs,s,h,hl=>by
  simp only[qdj]at h;obtain⟨hb,h⟩:=ag h;split at h
  ·rename_i r hr;cases h;have:=a8 hb;subst this;simp only[List.length_cons]at hl;have e:s.ap (.new t' o')=⟨s.S,s.H.set t' o'⟩:=by
    simp only[TS.ap,sAp,hAp,f4];rw[show Nat.blt t' s.H.length=true by simp[Nat.blt_eq];omega];rfl
   show(s.ap (.new t' o')).aps δ=_;rw[e,jd2 _ hr (by simp;omega)];rfl
  ·cases h
 | .sb θ::δ,n,obs,s,h,_=>by simp[qdj]at h
 | .set t' o' ::δ,n,obs,s,h,_=>by simp[qdj]at h
end Go.K
namespace Go.K
open Go.M Go.RowKit
theorem q2s{l:List Oper}{i:Nat}{o:Oper}(h:l[i]? =some o):qyi l i=onN o:=by simp only[qyi,h,onN]
theorem je4{i:Nat}:∀{l:List Nat},q9v i l=true→∀k∈l,k<i
 |[],_,k,h=>by simp at h
 |a::l,hl,k,h=>by
  unfold q9v at hl;cases hb:Nat.blt a i with
  |false=>rw[hb]at hl;cases hl
  |true=>
   rw[hb]at hl;rcases List.mem_cons.1 h with rfl|h
   ·exact d6 hb
   ·exact je4 hl k h
theorem q67{be:List Nat}:∀{l:List Oper} {i0:Nat},qw7 be i0 l=true→∀(j:Nat) o,l[j]? =some o→be.getD (i0+j) 0=q07 be (onN o)∧∀k∈onN o,k<i0+j
 |[],_,_,j,o,h=>by simp at h
 |a::l,i0,ht,j,o,h=>by
  unfold qw7 at ht;obtain⟨hb,ht⟩:(Nat.beq (be.getD i0 0) (q07 be (onN a))&&q9v i0 (onN a))=true∧qw7 be (i0+1) l=true:=by
   cases hb:(Nat.beq (be.getD i0 0) (q07 be (onN a))&&q9v i0 (onN a))with
   |false=>rw[hb]at ht;cases ht
   |true=>rw[hb]at ht;exact⟨rfl,ht⟩
  simp only[Bool.and_eq_true]at hb;cases j with
  |zero=>
   simp at h;subst h;exact⟨a8 hb.1,je4 hb.2⟩
  |succ j=>
   have:=q67 ht j o (by simpa using h);rw[show i0+(j+1)=i0+1+j by omega];exact this
theorem jax{be:List Nat}{j:Nat}:∀{l:List Nat},Nat.testBit (q07 be l) j=true→∃k∈l,j=k∨Nat.testBit (be.getD k 0) j=true
 |[],h=>by simp[q07]at h
 |a::l,h=>by
  have h' :Nat.testBit (((1<<<a)|||be.getD a 0)|||q07 be l) j=true:=h;rw[Nat.testBit_or,Nat.testBit_or,Bool.or_eq_true,Bool.or_eq_true]at h';rcases h' with(h' |h')|h'
  ·rw[Nat.one_shiftLeft,Nat.testBit_two_pow,decide_eq_true_eq]at h';exact⟨a,List.mem_cons_self, .inl h'.symm⟩
  ·exact⟨a,List.mem_cons_self, .inr h'⟩
  ·obtain⟨k,hk,hj⟩:=jax h';exact⟨k,List.mem_cons_of_mem _ hk,hj⟩
theorem jge{be:List Nat}{l:List Oper}(ht:qw7 be 0 l=true){D:Nat→Bool}(hcl:qxp l D):∀(i:Nat) o,l[i]? =some o→(∀k∈qyi l i,D k=true)→∀j,inW be j i=true→D j=true:=by
 intro i
 induction i using Nat.strongRecOn with
 |_ i ih=>
  intro o ho hon j hj;obtain⟨h1,h2⟩:=q67 ht i o ho;rw[Nat.zero_add]at h1 h2;unfold inW at hj;rw[h1]at hj;obtain⟨k,hk,hjk⟩:=jax hj;rw[q2s ho]at hon;have hDk:=hon k hk;rcases hjk with rfl|hjk
  ·exact hDk
  ·have hlt:=h2 k hk;have hil:i<l.length:=(List.getElem?_eq_some_iff.1 ho).1;exact ih k hlt l[k] (List.getElem?_eq_getElem (by omega)) (fun m hm=>hcl k hDk m hm) j hjk
theorem q2k{be:List Nat}{l:List Oper}(ht:qw7 be 0 l=true){D:Nat→Bool}(hcl:qxp l D){i:Nat}{o:Oper}(ho:l[i]? =some o)(hD:D i=true){j:Nat}(hj:inW be j i=true):D j=true:=
 jge ht hcl i o ho (fun k hk=>hcl i hD k hk) j hj
theorem jbe{a b:Bool}(h:(bif a then b else false)=true):a=true∧b=true:=by cases a<;>simp_all
theorem jab{ops:List Oper}{be rs:List Nat}{i:Nat}{o:Oper}:∀{l:List Oper} {k0:Nat},jck ops be rs i o k0 l=true→∀(j:Nat) o',l[j]? =some o' →jjr ops be rs i o (k0+j) o' =true
 |[],_,_,j,o',h=>by simp at h
 |a::l,k0,hp,j,o',h=>by
  unfold jck at hp;obtain⟨h1,h2⟩:=jbe hp;cases j with
  |zero=>simp at h;subst h;exact h1
  |succ j=>
   rw[show k0+(j+1)=k0+1+j by omega];exact jab h2 j o' (by simpa using h)
theorem q4q{ops:List Oper}{be rs:List Nat}:∀{l:List Oper} {i0:Nat},q2t ops be rs i0 l=true→∀(i k:Nat) o o',i<k→l[i]? =some o→l[k]? =some o' →jjr ops be rs (i0+i) o (i0+k) o' =true
 |[],_,_,i,k,o,o',_,h,_=>by simp at h
 |a::l,i0,hp,i,k,o,o',hik,h,h' =>by
  unfold q2t at hp;obtain⟨h1,h2⟩:=jbe hp;cases k with
  |zero=>omega
  |succ k=>
   cases i with
   |zero=>
    simp at h;subst h;have:=jab h1 k o' (by simpa using h');rw[show i0+(k+1)=i0+1+k by omega];exact this
   |succ i=>
    have:=q4q h2 i k o o' (by omega) (by simpa using h) (by simpa using h');rw[show i0+(i+1)=i0+1+i by omega,show i0+(k+1)=i0+1+k by omega];exact this
theorem uz{ops:List Oper}{o o' :Oper}(h:qud ops o o' =false):(∀d,o.dst=some d→d∉usN ops o' ∧o'.dst≠some d)∧∀d,o'.dst=some d→d∉usN ops o:=by
 simp only[qud,Bool.or_eq_false_iff]at h;refine⟨fun d hd=> ?_,fun d hd=> ?_⟩
 ·rw[hd]at h;simp only[Bool.or_eq_false_iff]at h;refine⟨q4f.1 h.1.1,fun e=> ?_⟩;have:=h.1.2;rw[dN,e]at this;simp only[Nat.beq_refl]at this;cases this
 ·rw[hd]at h;exact q4f.1 h.2
structure Facts (ops : List Oper) (be rs : List Nat) : Prop where
 tb : qw7 be 0 ops = true
 aa : ∀ i k o o', i < k → ops[i]? = some o → ops[k]? = some o' → ry i rs = false → inW be i k = false → qud ops o o' = false
 rr : ∀ i k o o', i < k → ops[i]? = some o → ops[k]? = some o' → ry i rs = true → ry k rs = true → inW be i k = true ∨ (qud ops o o' = false ∧ (qdi o.op = true ∨ qdi o'.op = true))
 ra : ∀ i k o o', i < k → ops[i]? = some o → ops[k]? = some o' → ry i rs = true → ry k rs = false → qud ops o o' = false
theorem facts{ops:List Oper}{be rs:List Nat}(h:jn0 ops be rs=true):Facts ops be rs:=by
 simp only[jn0,Bool.and_eq_true]at h;refine⟨h.1,fun i k o o' hik ho ho' hi hw=> ?_,fun i k o o' hik ho ho' hi hk=> ?_,fun i k o o' hik ho ho' hi hk=> ?_⟩
 all_goals
  have hp:=q4q h.2 i k o o' hik ho ho';rw[Nat.zero_add,Nat.zero_add]at hp;unfold jjr at hp
 ·rw[hi]at hp;simpa[hw]using hp
 ·rw[hi,hk]at hp;simp only[Bool.or_eq_true,Bool.and_eq_true,Bool.not_eq_true']at hp;exact hp
 ·rw[hi,hk]at hp;simpa using hp
section
variable {Rf : Type}
def qdf(S0:List (Nat×TV)):List En→List (Nat×TV)
 |[]=>S0
 |e::l=>q1h (qdf S0 l) e.dst e.v
def uy(H0:List TOb):List En→List TOb
 |[]=>H0
 |e::l=>uy H0 l++e.news
def Wn(N:Nat)(l:List Oper)(o:Oper)(S:List (Nat×TV))(b:Bool):Prop:=
 match o.guard with
 |none=>b=true
 |some g=>∃d,qui l g.1=some d∧d<N∧((∃c,bt S d= .bool c∧(c==g.2)=b)∨(bt S d= .undef∧b=false))
structure EnOK (X : Ctx Rf) (l : List Oper) (be rs τ : List Nat) (S0 : List (Nat × TV)) (H0 : List TOb) (recs : List En) (e : En) (o : Oper) : Prop where
 at_ : l[e.i]? = some o
 dst : e.dst = o.dst
 free : ry e.i rs = false
 wk : e.wk = uq o.op
 n : e.n = (uy H0 recs).length
 lt : ∀ e' ∈ recs, e'.i < e.i
 run : (Wn X.N l o (qdf S0 recs) true ∧ e.xs = o.op.operands.toList.map (fun x => qmc (zR be e.i recs) (evT X.N (qdf S0 recs) x)) ∧ HvW o.op e.Hv (qta (zA be rs τ e.i recs) (uy H0 recs)) ∧
     ∃ δ, qin X o.op (fun x => qmc (zR be e.i recs) (evT X.N (qdf S0 recs) x)) e.Hv rt = some (δ, e.v) ∧ qdj e.n δ = some e.news) ∨
   (Wn X.N l o (qdf S0 recs) false ∧ e.v = .undef ∧ e.news = [] ∧ e.Hv = [] ∧ e.xs = [])
def Tr(X:Ctx Rf)(l:List Oper)(be rs τ:List Nat)(S0:List (Nat×TV))(H0:List TOb):List En→Prop
 |[]=>True
 |e::recs=>Tr X l be rs τ S0 H0 recs∧∃o,EnOK X l be rs τ S0 H0 recs e o
def Cov(l:List Oper)(rs:List Nat)(recs:List En)(m:Nat):Prop:=∀j,j<m→j<l.length→ry j rs=false→∃e∈recs,e.i=j
theorem Wn.ext{N:Nat}{l:List Oper}{o:Oper}{S S' :List (Nat×TV)}{b:Bool}(h:∀t,bt S t=bt S' t)(hw:Wn N l o S b):Wn N l o S' b:=by
 unfold Wn at hw⊢;cases hg:o.guard with
 |none=>rw[hg]at hw;exact hw
 |some g=>
  rw[hg]at hw;obtain⟨d,h1,h2,h3⟩:=hw;simp only[];refine⟨d,h1,h2,?_⟩;rw[←h];exact h3
theorem qk3{R:Type}{N:Nat}{all:List Oper}{o:Oper}{g:Nat×Bool}(hg:o.guard=some g){S:List (Nat×TV)}{run skip:List (Nat×TV)→Option R}{r:R}(h:joe N all g S run skip=some r):
  ∃S1,(∀t,bt S1 t=bt S t)∧((Wn N all o S true∧run S1=some r)∨(Wn N all o S false∧skip S1=some r)):=by
 unfold joe at h;unfold Wn;rw[hg];split at h
 ·rename_i d hgd;refine⟨S,fun _=>rfl, .inr ⟨?_,h⟩⟩;unfold jg9 at hgd;split at hgd
  ·rename_i d' hd;split at hgd
   ·cases hgd
   ·rename_i e;cases hgd;unfold rd at e;cases hb:Nat.blt d N with
    |false=>rw[hb]at e;cases e
    |true=>rw[hb]at e;exact⟨d,hd,d6 hb, .inr ⟨e,rfl⟩⟩
   ·cases hgd
  ·cases hgd
 ·rename_i d b hgd;have hd:qui all g.1=some d∧d<N∧bt S d= .bool b:=by
   unfold jg9 at hgd;split at hgd
   ·rename_i d' hd;split at hgd
    ·rename_i b' e;cases hgd;unfold rd at e;cases hb:Nat.blt d N with
     |false=>rw[hb]at e;cases e
     |true=>rw[hb]at e;exact⟨hd,d6 hb,e⟩
    ·cases hgd
    ·cases hgd
   ·cases hgd
  obtain⟨h1,h2,h3⟩:=hd;have hext:∀b',b=b' →∀t,bt ((d,TV.bool b')::S) t=bt S t:=by
   rintro b' rfl t;rw[nr];split
   ·rename_i e;rw[←e,h3]
   ·rfl
  obtain⟨g1,g2⟩:=g;simp only[]at h h1⊢;cases g2 with
  |true=>
   simp only[]at h;cases b with
   |true=>exact⟨_,hext true rfl, .inl ⟨⟨d,h1,h2, .inl ⟨true,h3,rfl⟩⟩,h⟩⟩
   |false=>exact⟨_,hext false rfl, .inr ⟨⟨d,h1,h2, .inl ⟨false,h3,rfl⟩⟩,h⟩⟩
  |false=>
   simp only[]at h;cases b with
   |true=>exact⟨_,hext true rfl, .inr ⟨⟨d,h1,h2, .inl ⟨true,h3,rfl⟩⟩,h⟩⟩
   |false=>exact⟨_,hext false rfl, .inl ⟨⟨d,h1,h2, .inl ⟨false,h3,rfl⟩⟩,h⟩⟩
 ·cases h
end
end Go.K
namespace Go.K
open Go.M Go.RowKit
section
variable {R Rf : Type} {X : Ctx Rf} {l : List Oper} {be rs τ : List Nat} {S0 : List (Nat × TV)} {H0 : List TOb}
theorem jir:∀{l:List Bool},jd l→qof l=true
 |[],_=>rfl
 |c::l,h=>by
  simp only[qof,Bool.and_eq_true];exact⟨h c List.mem_cons_self,jir fun d hd=>h d (List.mem_cons_of_mem _ hd)⟩
theorem qhw{S S' :List (Nat×TV)}(h:∀t,bt S t=bt S' t)(d:Option Tmp)(v:TV)(t:Nat):bt (q1h S d v) t=bt (q1h S' d v) t:=by
 simp only[iy,h]
theorem jrx{k:List (Nat×TV)→List TOb→List En→Option R}{r:R}:∀(ops:List Oper) (i:Nat) (S:List (Nat×TV)) (recs:List En),l.drop i=ops→Tr X l be rs τ S0 H0 recs→(∀e∈recs,e.i<i)→Cov l rs recs i→(∀t,bt S t=bt (qdf S0 recs) t)→
  jc5 X l be rs τ ops i S (uy H0 recs) recs k=some r→∃recs' S',Tr X l be rs τ S0 H0 recs' ∧Cov l rs recs' l.length∧(∀t,bt S' t=bt (qdf S0 recs') t)∧k S' (uy H0 recs') recs' =some r:=by
 intro ops
 induction ops with
 |nil=>
  intro i S recs hd ht hlt hc hS h;have hi:l.length≤i:=by
   have:=congrArg List.length hd;simp at this;omega
  exact⟨recs,S,ht,fun j hj hj' hm=>hc j (by omega) hj' hm,hS,h⟩
 |cons o rest ih=>
  intro i S recs hd ht hlt hc hS h;have hil:i<l.length:=by
   have:=congrArg List.length hd;simp at this;omega
  have hoi:l[i]? =some o:=by
   have:=List.drop_eq_getElem_cons hil;rw[hd]at this;rw[List.getElem?_eq_getElem hil];injection this with h1 h2
   rw[h1]
  have hdr:l.drop (i+1)=rest:=by
   have:=List.drop_eq_getElem_cons hil;rw[hd]at this;injection this with h1 h2
   exact h2.symm
  have hnext:∀(e:En) S',e.i=i→Tr X l be rs τ S0 H0 (e::recs)→(∀t,bt S' t=bt (qdf S0 (e::recs)) t)→jc5 X l be rs τ rest (i+1) S' (uy H0 (e::recs)) (e::recs) k=some r→
    ∃recs' S',Tr X l be rs τ S0 H0 recs' ∧Cov l rs recs' l.length∧(∀t,bt S' t=bt (qdf S0 recs') t)∧k S' (uy H0 recs') recs' =some r:=by
   intro e S' hei htr hS' hrun;refine ih (i+1) S' (e::recs) hdr htr (fun e' he' => ?_) (fun j hj hjl hm=> ?_) hS' hrun
   ·rcases List.mem_cons.1 he' with rfl|he'
    ·omega
    ·have:=hlt e' he';omega
   ·by_cases e' :j=i
    ·exact⟨e,List.mem_cons_self,by omega⟩
    ·obtain⟨e1,h1,h2⟩:=hc j (by omega) hjl hm;exact⟨e1,List.mem_cons_of_mem _ h1,h2⟩
  have hop:∀S1,(∀t,bt S1 t=bt (qdf S0 recs) t)→ry i rs=false→Wn X.N l o (qdf S0 recs) true→opA X be rs τ i o S1 (uy H0 recs) recs (fun S' H' recs' =>jc5 X l be rs τ rest (i+1) S' H' recs' k)=some r→
    ∃recs' S',Tr X l be rs τ S0 H0 recs' ∧Cov l rs recs' l.length∧(∀t,bt S' t=bt (qdf S0 recs') t)∧k S' (uy H0 recs') recs' =some r:=by
   intro S1 hS1 hm hw hopA;unfold opA at hopA;rw[ji8 hS1]at hopA;obtain⟨δ,v,hk,hst⟩:=jaw hopA;split at hk
   ·rename_i obs hobs;refine hnext ⟨i,o.dst,o.op.operands.toList.map (fun x=>qmc (zR be i recs) (evT X.N (qdf S0 recs) x)),_,(uy H0 recs).length,obs,v,uq o.op⟩ _ rfl ⟨ht,o,hoi,rfl,hm,rfl,rfl,fun e' he' =>hlt e' he', .inl ⟨hw,rfl,j1u _ _ _ _,δ,hst,hobs⟩⟩ (qhw hS1 o.dst v) hk
   ·cases hk
  unfold jc5 at h;cases hm:ry i rs with
  |true=>
   rw[hm]at h;exact ih (i+1) S recs hdr ht (fun e he=>by have:=hlt e he;omega) (fun j hj hjl hm' =>by
    by_cases e:j=i
    ·subst e;rw[hm]at hm';cases hm'
    ·exact hc j (by omega) hjl hm') hS h
  |false=>
   rw[hm]at h;simp only[cond_false]at h;split at h
   ·rename_i hg;exact hop S hS hm (by unfold Wn;rw[hg]) h
   ·rename_i g hg;obtain⟨S1,hext,hcase⟩:=qk3 hg h;have hS1:∀t,bt S1 t=bt (qdf S0 recs) t:=fun t=>(hext t).trans (hS t)
    rcases hcase with⟨hw,hrun⟩|⟨hw,hrun⟩
    ·exact hop S1 hS1 hm (hw.ext hS) hrun
    ·refine hnext ⟨i,o.dst,[],[],(uy H0 recs).length,[], .undef,uq o.op⟩ _ rfl ⟨ht,o,hoi,rfl,hm,rfl,rfl,fun e' he' =>hlt e' he', .inr ⟨hw.ext hS,rfl,rfl,rfl,rfl⟩⟩ (qhw hS1 o.dst .undef) ?_;simp only[uy,List.append_nil];exact hrun
structure RE where
 i : Nat
 dst : Option Tmp
 δ : List St
 v : TV
def canR(s:TS):List RE→TS
 |[]=>s
 |e::l=>((canR s l).aps e.δ).put e.dst e.v
structure REOK (X : Ctx Rf) (l : List Oper) (be rs : List Nat) (recs : List En) (s : TS) (rest : List RE) (e : RE) (o : Oper) : Prop where
 at_ : l[e.i]? = some o
 dst : e.dst = o.dst
 wr : ry e.i rs = true
 lt : ∀ e' ∈ rest, e'.i < e.i
 ord : qtp be e.i rs = true ∨ qu6 e.δ = true
 run : (Wn X.N l o (canR s rest).S true ∧ qin X o.op (fun x => qmc (zR be e.i recs) (evT X.N (canR s rest).S x)) (qta (zR be e.i recs) (canR s rest).H) rt = some (e.δ, e.v) ∧ qr7 be e.i e.δ recs = true) ∨
   (Wn X.N l o (canR s rest).S false ∧ e.δ = [] ∧ e.v = .undef)
def TrR(X:Ctx Rf)(l:List Oper)(be rs:List Nat)(recs:List En)(s:TS):List RE→Prop
 |[]=>True
 |e::rest=>TrR X l be rs recs s rest∧∃o,REOK X l be rs recs s rest e o
def jqg(l:List Oper)(rs:List Nat)(res:List RE)(m:Nat):Prop:=∀j,j<m→j<l.length→ry j rs=true→∃e∈res,e.i=j
theorem jry{recs:List En}{s0:TS}{k:TS→Option R}{r:R}:∀(ops:List Oper) (i:Nat) (s:TS) (res:List RE),l.drop i=ops→TrR X l be rs recs s0 res→(∀e∈res,e.i<i)→jqg l rs res i→Ext s (canR s0 res)→
  jc6 X l be rs recs ops i s k=some r→∃res' s',TrR X l be rs recs s0 res' ∧jqg l rs res' l.length∧Ext s' (canR s0 res')∧k s' =some r:=by
 intro ops
 induction ops with
 |nil=>
  intro i s res hd ht hlt hc hS h;have hi:l.length≤i:=by
   have:=congrArg List.length hd;simp at this;omega
  exact⟨res,s,ht,fun j hj hj' hm=>hc j (by omega) hj' hm,hS,h⟩
 |cons o rest ih=>
  intro i s res hd ht hlt hc hS h;have hil:i<l.length:=by
   have:=congrArg List.length hd;simp at this;omega
  have hoi:l[i]? =some o:=by
   have:=List.drop_eq_getElem_cons hil;rw[hd]at this;rw[List.getElem?_eq_getElem hil];injection this with h1 h2
   rw[h1]
  have hdr:l.drop (i+1)=rest:=by
   have:=List.drop_eq_getElem_cons hil;rw[hd]at this;injection this with h1 h2
   exact h2.symm
  have hnext:∀(e:RE) s',e.i=i→TrR X l be rs recs s0 (e::res)→Ext s' (canR s0 (e::res))→jc6 X l be rs recs rest (i+1) s' k=some r→
    ∃res' s',TrR X l be rs recs s0 res' ∧jqg l rs res' l.length∧Ext s' (canR s0 res')∧k s' =some r:=by
   intro e s' hei htr hS' hrun;refine ih (i+1) s' (e::res) hdr htr (fun e' he' => ?_) (fun j hj hjl hm=> ?_) hS' hrun
   ·rcases List.mem_cons.1 he' with rfl|he'
    ·omega
    ·have:=hlt e' he';omega
   ·by_cases e' :j=i
    ·exact⟨e,List.mem_cons_self,by omega⟩
    ·obtain⟨e1,h1,h2⟩:=hc j (by omega) hjl hm;exact⟨e1,List.mem_cons_of_mem _ h1,h2⟩
  have hop:∀s1,Ext s1 (canR s0 res)→ry i rs=true→Wn X.N l o (canR s0 res).S true→opR X be rs recs i o s1 (fun s' =>jc6 X l be rs recs rest (i+1) s' k)=some r→
    ∃res' s',TrR X l be rs recs s0 res' ∧jqg l rs res' l.length∧Ext s' (canR s0 res')∧k s' =some r:=by
   intro s1 hS1 hm hw hopR;unfold opR at hopR;rw[ji8 hS1.S,hS1.H]at hopR;obtain⟨δ,v,hk,hst⟩:=jaw hopR;split at hk
   ·rename_i cs hcs;obtain⟨hord,hk⟩:=ag hk;obtain⟨hok,hk⟩:=bv hk;exact hnext ⟨i,o.dst,δ,v⟩ _ rfl ⟨ht,o,hoi,rfl,hm,fun e' he' =>hlt e' he',(Bool.or_eq_true _ _▸hord), .inl ⟨hw,hst,qyh hcs (jir hok)⟩⟩ ((hS1.aps δ).put o.dst v) hk
   ·cases hk
  unfold jc6 at h;cases hm:ry i rs with
  |false=>
   rw[hm]at h;exact ih (i+1) s res hdr ht (fun e he=>by have:=hlt e he;omega) (fun j hj hjl hm' =>by
    by_cases e:j=i
    ·subst e;rw[hm]at hm';cases hm'
    ·exact hc j (by omega) hjl hm') hS h
  |true=>
   rw[hm]at h;simp only[cond_true]at h;split at h
   ·rename_i hg;exact hop s hS hm (by unfold Wn;rw[hg]) h
   ·rename_i g hg;obtain⟨S1,hext,hcase⟩:=qk3 hg h;have hS1:Ext ⟨S1,s.H⟩ (canR s0 res):=⟨hS.H,fun t=>(hext t).trans (hS.S t)⟩;rcases hcase with⟨hw,hrun⟩|⟨hw,hrun⟩
    ·exact hop _ hS1 hm (hw.ext hS.S) hrun
    ·exact hnext ⟨i,o.dst,[], .undef⟩ _ rfl ⟨ht,o,hoi,rfl,hm,fun e' he' =>hlt e' he', .inr rfl, .inr ⟨hw.ext hS.S,rfl,rfl⟩⟩ (hS1.put o.dst .undef) hrun
def rm(S0:List (Nat×TV))(H0:List TOb)(D:Nat→Bool):List En→TS
 |[]=>⟨S0,H0⟩
 |e::l=>if D e.i=true then⟨q1h (rm S0 H0 D l).S e.dst e.v,(rm S0 H0 D l).H++e.news⟩else⟨(rm S0 H0 D l).S,(rm S0 H0 D l).H++List.replicate e.news.length .gone⟩
def stR(D:Nat→Bool)(s:TS):List RE→TS
 |[]=>s
 |e::l=>if D e.i=true then((stR D s l).aps e.δ).put e.dst e.v else stR D s l
theorem qhq(D:Nat→Bool):∀(recs:List En),(rm S0 H0 D recs).H.length=(uy H0 recs).length
 |[]=>rfl
 |e::l=>by
  unfold rm uy;split<;>simp[qhq D l]
theorem q61{D:Nat→Bool}{t:Nat}:∀{recs:List En},(∀e∈recs,e.dst=some t→D e.i=true)→bt (rm S0 H0 D recs).S t=bt (qdf S0 recs) t
 |[],_=>rfl
 |e::l,h=>by
  have ih:=q61 (D:=D) (t:=t) (recs:=l) fun e' he' =>h e' (List.mem_cons_of_mem _ he')
  unfold rm qdf;split
  ·simp only[iy,ih]
  ·rename_i hd;have:e.dst≠some t:=fun e' =>hd (h e List.mem_cons_self e')
   simp only[iy,if_neg this,ih]
theorem Tr.bnd:∀{recs:List En},Tr X l be rs τ S0 H0 recs→∀e∈recs,H0.length≤e.n∧e.n+e.news.length≤(uy H0 recs).length
 |[],_,e,h=>by simp at h
 |e' ::recs,ht,e,h=>by
  obtain⟨ht,o,he⟩:=ht;have hle:H0.length≤(uy H0 recs).length:=by
   clear ht he h
   induction recs with
   |nil=>exact Nat.le_refl _
   |cons a m ih=>simp only[uy,List.length_append];omega
  rcases List.mem_cons.1 h with rfl|h
  ·rw[he.n];simp only[uy,List.length_append];omega
  ·have:=Tr.bnd ht e h;simp only[uy,List.length_append];omega
theorem jid{D:Nat→Bool}{t:Nat}:∀{recs:List En},Tr X l be rs τ S0 H0 recs→(∀e∈recs,e.n≤t→t<e.n+e.news.length→D e.i=true)→(rm S0 H0 D recs).H[t]? =(uy H0 recs)[t]?
 |[],_,_=>rfl
 |e::recs,ht,h=>by
  obtain⟨ht,o,he⟩:=ht;have ih:=jid (D:=D) (t:=t) ht fun e' he' =>h e' (List.mem_cons_of_mem _ he')
  have hl:=qhq (S0:=S0) (H0:=H0) D recs;unfold rm uy;split
  ·simp only[List.getElem?_append,hl,ih]
  ·rename_i hd;rcases Nat.lt_or_ge t (uy H0 recs).length with h1|h1
   ·rw[List.getElem?_append_left (by omega),List.getElem?_append_left h1,ih]
   ·have:¬t<e.n+e.news.length:=fun h2=>hd (h e List.mem_cons_self (by rw[he.n];exact h1) h2)
    rw[he.n]at this;rw[List.getElem?_eq_none (by simp;omega),List.getElem?_eq_none (by simp;omega)]
theorem jfx{D:Nat→Bool}{t:Nat}:∀{recs:List En},Tr X l be rs τ S0 H0 recs→∀e∈recs,D e.i=false→e.n≤t→t<e.n+e.news.length→(rm S0 H0 D recs).H[t]? =some .gone
 |[],_,e,h,_,_,_=>by simp at h
 |e' ::recs,ht,e,h,hD,h1,h2=>by
  obtain⟨ht,o,he⟩:=ht;have hl:=qhq (S0:=S0) (H0:=H0) D recs;rcases List.mem_cons.1 h with rfl|h
  ·unfold rm;rw[if_neg (by simp[hD])];simp only[];rw[List.getElem?_append_right (by rw[hl,←he.n];exact h1),List.getElem?_replicate,if_pos (by rw[hl,←he.n];omega)]
  ·have ih:=jfx (D:=D) (t:=t) ht e h hD h1 h2;have hb:=(Tr.bnd ht e h).2;unfold rm;split<;>(simp only[];rw[List.getElem?_append_left (by omega)];exact ih)
end
end Go.K
namespace Go.K
open Go.M Go.RowKit
section
variable {R Rf : Type} {X : Ctx Rf} {l : List Oper} {be rs τ : List Nat} {S0 : List (Nat × TV)} {H0 : List TOb}
def apE(e:En)(s:TS):TS:=⟨q1h s.S e.dst e.v,qjj e.n e.news s.H⟩
theorem Ext.apE{s s' :TS}(h:Ext s s')(e:En):Ext (apE e s) (apE e s'):=⟨by simp only[Go.K.apE,h.H],qhw h.S e.dst e.v⟩
theorem qyr{n:Nat}{news H Y:List TOb}(h:n+news.length≤H.length):qjj n news (H++Y)=qjj n news H++Y:=by
 apply List.ext_getElem?;intro t;rw[qcw _ _ _ (by simp;omega)];rcases Nat.lt_or_ge t H.length with h1|h1
 ·rw[List.getElem?_append_left h1,List.getElem?_append_left (by rw[qbh];exact h1),qcw _ _ _ h]
 ·rw[if_neg (by omega),List.getElem?_append_right h1,List.getElem?_append_right (by rw[qbh];exact h1),qbh]
theorem jmk{news H:List TOb}:qjj H.length news (H++List.replicate news.length .gone)=H++news:=by
 apply List.ext_getElem?;intro t;rw[qcw _ _ _ (by simp)];rcases Nat.lt_or_ge t H.length with h1|h1
 ·rw[if_neg (by omega),List.getElem?_append_left h1,List.getElem?_append_left h1]
 ·rw[List.getElem?_append_right h1,List.getElem?_append_right h1,List.getElem?_replicate];by_cases h2:t<H.length+news.length
  ·rw[if_pos ⟨h1,h2⟩]
  ·rw[if_neg (by omega),if_neg (by omega),List.getElem?_eq_none (by omega)]
theorem qz4{D D' :Nat→Bool}:∀{recs:List En},(∀e∈recs,D e.i=D' e.i)→rm S0 H0 D recs=rm S0 H0 D' recs
 |[],_=>rfl
 |e::m,h=>by
  unfold rm;rw[h e List.mem_cons_self,qz4 fun e' he' =>h e' (List.mem_cons_of_mem _ he')]
theorem qiy{D:Nat→Bool}{i k:Nat}(h:k≠i):nj D i k=D k:=by simp[nj,h]
theorem jeh{D:Nat→Bool}{i:Nat}:nj D i i=true:=by simp[nj]
theorem jkd{D:Nat→Bool}:∀{recs:List En},Tr X l be rs τ S0 H0 recs→∀e∈recs,D e.i=false→(∀e' ∈recs,e.i<e'.i→D e'.i=true→∀d,e'.dst=some d→e.dst≠some d)→Ext (rm S0 H0 (nj D e.i) recs) (apE e (rm S0 H0 D recs))
 |[],_,e,h,_,_=>by simp at h
 |e1::recs,ht,e,h,hD,hdst=>by
  obtain⟨ht,o,he⟩:=ht;rcases List.mem_cons.1 h with rfl|h
  ·have hc:rm S0 H0 (nj D e.i) recs=rm S0 H0 D recs:=qz4 fun e' he' =>qiy (by have:=he.lt e' he';omega)
   unfold rm;rw[if_pos jeh,if_neg (by simp[hD]),hc];refine⟨?_,fun t=>rfl⟩;simp only[apE];have hn:e.n=(rm S0 H0 D recs).H.length:=by rw[qhq,he.n]
   rw[hn,jmk]
  ·have hlt:=he.lt e h;have ih:=jkd ht e h hD fun e' he' =>hdst e' (List.mem_cons_of_mem _ he')
   have hb:=(Tr.bnd ht e h).2;have hl:=qhq (S0:=S0) (H0:=H0) D recs;have e0:nj D e.i e1.i=D e1.i:=qiy (by omega);unfold rm;rw[e0];split
   ·rename_i hD1;refine⟨?_,fun t=> ?_⟩
    ·simp only[apE];rw[ih.H,qyr (by omega)];rfl
    ·simp only[apE,iy,ih.S];by_cases h1:e1.dst=some t
     ·have:=hdst e1 List.mem_cons_self hlt hD1 t h1;rw[if_pos h1,if_neg this,if_pos h1]
     ·rw[if_neg h1,if_neg h1]
   ·refine⟨?_,fun t=> ?_⟩
    ·simp only[apE];rw[ih.H,qyr (by omega)];rfl
    ·simp only[apE,ih.S]
theorem jao{n t:Nat}{news H:List TOb}{o:TOb}(hb:n+news.length≤H.length)(ht:t<n∨n+news.length≤t):(qjj n news H).set t o=qjj n news (H.set t o):=by
 apply List.ext_getElem?;intro t';rw[qcw _ _ _ (by rw[List.length_set];exact hb)];by_cases h1:t=t'
 ·subst h1;rw[if_neg (by omega)];rcases Nat.lt_or_ge t H.length with h2|h2
  ·rw[List.getElem?_set_self (by rw[qbh];exact h2),List.getElem?_set_self h2]
  ·rw[List.getElem?_eq_none (by rw[List.length_set,qbh];exact h2),List.getElem?_eq_none (by rw[List.length_set];exact h2)]
 ·rw[List.getElem?_set_ne h1,List.getElem?_set_ne h1,qcw _ _ _ hb]
theorem jvb{e:En}{s:TS}{x:St}(hok:qe9 e x=true)(hb:e.n+e.news.length≤s.H.length):Ext ((apE e s).ap x) (apE e (s.ap x))∧e.n+e.news.length≤(s.ap x).H.length:=by
 cases x with
 |sb θ=>
  simp only[qe9,Bool.and_eq_true]at hok;obtain⟨⟨⟨_,_⟩,h3⟩,h4⟩:=hok;refine⟨⟨?_,fun t=> ?_⟩,by simp only[TS.ap,hAp,da];exact hb⟩
  ·simp only[TS.ap,hAp,apE];apply List.ext_getElem?;intro t;rw[ia,qcw _ _ _ hb,qcw _ _ _ (by rw[da];exact hb)];split
   ·rw[←ia,jj4 _ h3]
   ·rw[ia]
  ·simp only[TS.ap,sAp,apE,gc,iy];split
   ·exact jc8 _ h4
   ·rfl
 |set t o=>
  simp only[qe9,Bool.and_eq_true,Bool.or_eq_true]at hok;have ht:t<e.n∨e.n+e.news.length≤t:=hok.1.imp d6 y6;refine⟨⟨?_,fun t=>rfl⟩,by simp only[TS.ap,hAp,List.length_set];exact hb⟩;simp only[TS.ap,hAp,apE];exact jao hb ht
 |new t o=>
  simp only[qe9,Bool.and_eq_true]at hok;have ht:=y6 hok.1;simp only[TS.ap,hAp,f4,apE,qbh];cases hblt:Nat.blt t s.H.length with
  |true=>
   simp only[cond_true];refine⟨⟨?_,fun t=>rfl⟩,by rw[List.length_set];exact hb⟩;exact jao hb (.inr ht)
  |false=>
   simp only[cond_false];refine⟨⟨?_,fun t=>rfl⟩,by rw[List.length_append];omega⟩;simp only[];rw[qyr hb]
theorem jit{e:En}:∀{δ:List St} {s:TS},tf e δ=true→e.n+e.news.length≤s.H.length→Ext ((apE e s).aps δ) (apE e (s.aps δ))∧e.n+e.news.length≤(s.aps δ).H.length
 |[],s,_,hb=>⟨Ext.refl _,hb⟩
 |x::δ,s,hok,hb=>by
  simp only[tf,Bool.and_eq_true]at hok;obtain⟨h1,h2⟩:=jvb hok.1 hb;obtain⟨h3,h4⟩:=jit hok.2 h2;exact⟨(h1.aps δ).trans h3,h4⟩
theorem jqj{e:En}{s:TS}{d:Option Tmp}{v:TV}(h:∀t,d=some t→e.dst≠some t):Ext ((apE e s).put d v) (apE e (s.put d v)):=by
 rw[il,il];refine⟨rfl,fun t=> ?_⟩;simp only[apE,iy];by_cases h1:d=some t
 ·rw[if_pos h1,if_neg (h t h1),if_pos h1]
 ·rw[if_neg h1,if_neg h1]
theorem q0o(s:TS)(d:Option Tmp)(v:TV):(s.put d v).H=s.H:=by cases d<;>rfl
theorem jkf{e:En}{D D' :Nat→Bool}{s s' :TS}(hb:e.n+e.news.length≤s.H.length)(he:Ext s' (apE e s)):∀{res:List RE},(∀re∈res,D' re.i=D re.i)→(∀re∈res,D re.i=true→tf e re.δ=true∧∀t,re.dst=some t→e.dst≠some t)→
  Ext (stR D' s' res) (apE e (stR D s res))∧e.n+e.news.length≤(stR D s res).H.length
 |[],_,_=>⟨he,hb⟩
 |re::res,hD,h=>by
  obtain⟨h1,h2⟩:=jkf hb he (res:=res) (fun r hr=>hD r (List.mem_cons_of_mem _ hr)) (fun r hr=>h r (List.mem_cons_of_mem _ hr));unfold stR;rw[hD re List.mem_cons_self];split
  ·rename_i hd;obtain⟨h3,h4⟩:=h re List.mem_cons_self hd;obtain⟨h5,h6⟩:=jit h3 h2;refine⟨(((h1.aps re.δ).trans h5).put re.dst re.v).trans (jqj h4),by rw[q0o];exact h6⟩
  ·exact⟨h1,h2⟩
theorem CsW.sb{ob ob' :TOb}{θ:TG→Ac}(h:CsW ob ob')(ha:ob.all (fun T=>(θ T).isId)=true):CsW ob (ob'.sb θ):=by
 obtain⟨ty,sz,n,cs,rfl,h0,⟨cs',rfl,hc⟩|⟨md,its,u,xs,rfl,e1,e2,hc⟩⟩:=h
 ·refine⟨ty,sz,n,cs,rfl,h0, .inl ⟨_,rfl,fun i=> ?_⟩⟩;rcases hc i with e|e
  ·exact .inl e
  ·refine .inr ?_;have e3:TV.sbL θ cs=cs:=qrb cs ha;rw[TV.sbL_at,←e,←TV.sbL_at,e3]
 ·exact⟨ty,sz,n,cs,rfl,h0, .inr ⟨md,its,u,xs,rfl,e1,e2,hc⟩⟩
theorem jnr{v v' :TV}{l:List Bool}(h:jnq v v' =some l)(hl:qof l=true):v= .any∨v=v' :=by
 unfold jnq at h;split at h
 ·exact .inl rfl
 ·split at h
  ·rename_i e;cases h;subst e;simp only[qof,Bool.and_true,decide_eq_true_eq]at hl;exact .inr (by rw[hl])
  ·cases h
 ·cases h;simp only[qof,Bool.and_true,beq_iff_eq]at hl;exact .inr (by rw[hl])
 ·obtain⟨h1,_⟩:=ag h;exact .inr (by rw[a8 h1])
 ·cases h
theorem qxx:∀{cs cs' :List TV} {l:List Bool},qxw cs cs' =some l→qof l=true→∀i,cs.getD i .any= .any∨cs.getD i .any=cs'.getD i .any
 |[],_,_,_,_,i=> .inl rfl
 |v::cs,[],l,h,hl,i=>by
  simp only[qxw]at h;split at h
  ·cases i with
   |zero=>exact .inl rfl
   |succ i=>exact qxx (cs:=cs) (cs' :=[]) h hl i
  ·cases h
 |v::cs,v' ::cs',l,h,hl,i=>by
  simp only[qxw]at h;split at h
  ·rename_i a ha;split at h
   ·rename_i b hb;cases h;obtain⟨h1,h2⟩:=qt9 hl;cases i with
    |zero=>exact jnr ha h1
    |succ i=>exact qxx hb h2 i
   ·cases h
  ·cases h
theorem jis:∀{cs:List TV},jva cs=true→∀i,cs.getD i .any= .any
 |[],_,i=>rfl
 | .any::cs,h,0=>rfl
 | .any::cs,h,i+1=>jis (cs:=cs) h i
 | .int _ _::_,h,_=>by cases h
 | .bool _::_,h,_=>by cases h
 | .val _::_,h,_=>by cases h
 | .e0::_,h,_=>by cases h
 | .sl _ _ _::_,h,_=>by cases h
 | .rptr _ _ _ _ _::_,h,_=>by cases h
 | .dm _ _ _ _::_,h,_=>by cases h
 | .own _::_,h,_=>by cases h
 | .ownS _ _ _::_,h,_=>by cases h
 | .ptr _ _ _::_,h,_=>by cases h
 | .mp _::_,h,_=>by cases h
 | .fn _ _::_,h,_=>by cases h
 | .agg _::_,h,_=>by cases h
 | .tup _::_,h,_=>by cases h
 | .cond _ _::_,h,_=>by cases h
 | .nl _ _::_,h,_=>by cases h
theorem jpz{wk:Bool}{ob o:TOb}(h:jj6 wk ob o=true):ob= .gone∨(wk=true∧CsW ob o):=by
 unfold jj6 at h;split at h
 ·rename_i l hl;unfold jp0 at hl;split at hl
  ·exact .inl rfl
  ·rename_i ty sz n cs;have h1:=(ag hl).1
   replace hl:=(ag hl).2
   simp only[Bool.and_eq_true]at h1;refine .inr ⟨h1.1,?_⟩;split at hl
   ·rename_i ty' sz' n' cs';have h2:=(ag hl).1
    replace hl:=(ag hl).2
    simp only[Bool.and_eq_true]at h2;have e1:=a8 h2.1.1;have e2:=a8 h2.1.2;have e3:=a8 h2.2;subst e1 e2 e3;exact⟨_,_,_,_,rfl,d6 h1.2, .inl ⟨_,rfl,qxx hl h⟩⟩
   ·rename_i ty' md its u xs;have h2:=(ag hl).1
    replace hl:=(ag hl).2
    simp only[Bool.and_eq_true]at h2;have e1:=a8 h2.1.1;have e2:=a8 h2.1.2;subst e1 e2;cases hl;simp only[qof,Bool.and_true,decide_eq_true_eq]at h;exact⟨_,_,_,_,rfl,d6 h1.2, .inr ⟨_,_,_,_,rfl,rfl,h.symm,jis h2.2⟩⟩
   ·cases hl
  ·cases hl
 ·cases h
structure Seen (N : Nat) (l : List Oper) (e : En) (o : Oper) (ex : Operand → TV) (b : Bool) (s : TS) : Prop where
 hv : ∀ (t : Nat) (ob : TOb), e.Hv[t]? = some ob → ob = .gone ∨ s.H[t]? = some ob ∨ (uq o.op = true ∧ ∃ ob', s.H[t]? = some ob' ∧ CsW ob ob')
 xs : b = true → ∀ x ∈ o.op.operands, Wk (evT N s.S x) (ex x)
 gd : Wn N l o s.S b
 fr : ∀ t : Nat, e.n ≤ t → t < e.n + e.news.length → s.H[t]? = some TOb.gone
theorem jy8{N:Nat}{S:List (Nat×TV)}{θ:TG→Ac}{x:Operand}{B:TV}(h:Wk (evT N S x) B)(ha:B.all (fun T=>(θ T).isId)=true):Wk (evT N (sbS θ S) x) B:=by
 cases x with
 |tmp t=>
  simp only[evT,rd]at h⊢;cases hb:Nat.blt t N with
  |false=>rw[hb]at h;exact h
  |true=>
   rw[hb]at h;simp only[cond_true]at h⊢;rw[gc];exact Wk.sb _ _ h ha
 |_=>exact h
theorem Wn.sb{N:Nat}{l:List Oper}{o:Oper}{S:List (Nat×TV)}{b:Bool}(θ:TG→Ac)(h:Wn N l o S b):Wn N l o (sbS θ S) b:=by
 unfold Wn at h⊢;cases hg:o.guard with
 |none=>rw[hg]at h;exact h
 |some g=>
  rw[hg]at h;obtain⟨d,h1,h2,h3⟩:=h;simp only[];refine⟨d,h1,h2,?_⟩;rw[gc];rcases h3 with⟨c,e,h4⟩|⟨e,h4⟩
  ·exact .inl ⟨c,by rw[e];rfl,h4⟩
  ·exact .inr ⟨by rw[e];rfl,h4⟩
theorem Seen.ap{N:Nat}{e:En}{o:Oper}{ex:Operand→TV}{b:Bool}{s:TS}(h:Seen N l e o ex b s)(hwk:e.wk=uq o.op)(hxs:b=true→e.xs=o.op.operands.toList.map ex){x:St}(hok:qe9 e x=true):Seen N l e o ex b (s.ap x):=by
 cases x with
 |sb θ=>
  simp only[qe9,Bool.and_eq_true]at hok;obtain⟨⟨⟨h1,h2⟩,h3⟩,h4⟩:=hok;refine⟨fun t ob ho=> ?_,fun hb x hx=> ?_,h.gd.sb θ,fun t t1 t2=> ?_⟩
  ·rcases h.hv t ob ho with e1|e1|⟨hl,ob',e1,hc⟩
   ·exact .inl e1
   ·refine .inr (.inl ?_);simp only[TS.ap,hAp,ia,e1,Option.map_some];rw[jj5 ob (ja8 h2 t ob ho)]
   ·refine .inr (.inr ⟨hl,ob'.sb θ,?_,hc.sb (ja8 h2 t ob ho)⟩);simp only[TS.ap,hAp,ia,e1,Option.map_some]
  ·refine jy8 (h.xs hb x hx) ?_;rw[hxs hb]at h1;have:∀{l:List TV} {p:TG→Bool},TV.allL p l=true→∀A∈l,A.all p=true:=by
    intro l p
    induction l with
    |nil=>intro _ A hA;simp at hA
    |cons B l ih=>
     intro ha A hA;simp only[TV.allL,Bool.and_eq_true]at ha;rcases List.mem_cons.1 hA with rfl|hA
     ·exact ha.1
     ·exact ih ha.2 A hA
   exact this h1 _ (List.mem_map.2 ⟨x,by simpa using hx,rfl⟩)
  ·simp only[TS.ap,hAp,ia,h.fr t t1 t2];rfl
 |set t' o' =>
  simp only[qe9,Bool.and_eq_true,Bool.or_eq_true]at hok;have ht:t' <e.n∨e.n+e.news.length≤t' :=hok.1.imp d6 y6;refine⟨fun t ob ho=> ?_,h.xs,h.gd,fun t t1 t2=> ?_⟩
  ·have key:∀ob0,s.H[t]? =some ob0→t' =t→ob= .gone∨(s.ap (.set t' o')).H[t]? =some ob∨(uq o.op=true∧∃ob',(s.ap (.set t' o')).H[t]? =some ob' ∧CsW ob ob'):=by
    intro ob0 h0 e2;subst e2;have h2:=hok.2;rw[List.getD_eq_getElem?_getD,ho,Option.getD_some]at h2;rcases jpz h2 with e3|⟨e3,e4⟩
    ·exact .inl e3
    ·refine .inr (.inr ⟨by rw[←hwk];exact e3,o',?_,e4⟩);simp only[TS.ap,hAp];exact List.getElem?_set_self (List.getElem?_eq_some_iff.1 h0).1
   rcases h.hv t ob ho with e1|e1|⟨hl,ob',e1,hc⟩
   ·exact .inl e1
   ·by_cases e2:t' =t
    ·exact key _ e1 e2
    ·refine .inr (.inl ?_);simp only[TS.ap,hAp,List.getElem?_set_ne e2];exact e1
   ·by_cases e2:t' =t
    ·exact key _ e1 e2
    ·refine .inr (.inr ⟨hl,ob',?_,hc⟩);simp only[TS.ap,hAp,List.getElem?_set_ne e2];exact e1
  ·simp only[TS.ap,hAp];rw[List.getElem?_set_ne (by omega)];exact h.fr t t1 t2
 |new t' o' =>
  simp only[qe9,Bool.and_eq_true]at hok;have ht:=y6 hok.1;have ht2:=y6 hok.2;have key:∀t ob,t≠t' →s.H[t]? =some ob→(f4 s.H t' o')[t]? =some ob:=by
   intro t ob hne hs;unfold f4;cases Nat.blt t' s.H.length with
   |true=>simp only[cond_true];rw[List.getElem?_set_ne (Ne.symm hne)];exact hs
   |false=>simp only[cond_false];rw[List.getElem?_append_left (List.getElem?_eq_some_iff.1 hs).1];exact hs
  refine⟨fun t ob ho=> ?_,h.xs,h.gd,fun t t1 t2=>key t _ (by omega) (h.fr t t1 t2)⟩;have:t<e.Hv.length:=(List.getElem?_eq_some_iff.1 ho).1;rcases h.hv t ob ho with e1|e1|⟨hl,ob',e1,hc⟩
  ·exact .inl e1
  ·exact .inr (.inl (key t ob (by omega) e1))
  ·exact .inr (.inr ⟨hl,ob',key t ob' (by omega) e1,hc⟩)
theorem Seen.aps{N:Nat}{e:En}{o:Oper}{ex:Operand→TV}{b:Bool}(hwk:e.wk=uq o.op)(hxs:b=true→e.xs=o.op.operands.toList.map ex):∀{δ:List St} {s:TS},Seen N l e o ex b s→tf e δ=true→Seen N l e o ex b (s.aps δ)
 |[],s,h,_=>h
 |x::δ,s,h,hok=>by
  simp only[tf,Bool.and_eq_true]at hok;exact Seen.aps hwk hxs (δ:=δ) (s:=s.ap x) (h.ap hwk hxs hok.1) hok.2
theorem jvs{N:Nat}{S:List (Nat×TV)}{d:Option Tmp}{v:TV}{x:Operand}(h:∀t,x= .tmp t→d≠some t):evT N (q1h S d v) x=evT N S x:=by
 cases x with
 |tmp t=>simp only[evT,rd,iy,if_neg (h t rfl)]
 |_=>rfl
theorem jik{l:List Oper}{o:Oper}{t:Nat}(h:Operand.tmp t∈o.op.operands):t∈usN l o:=
 List.mem_append.2 (.inl (List.mem_filterMap.2 ⟨.tmp t,by simpa using h,rfl⟩))
theorem jys{l:List Oper}{o:Oper}{g:Nat×Bool}{d:Nat}(hg:o.guard=some g)(hd:qui l g.1=some d):d∈usN l o:=by
 refine List.mem_append.2 (.inr ?_);rw[hg];simp only[hd];simp
theorem Wn.slots{N:Nat}{l:List Oper}{o:Oper}{S S' :List (Nat×TV)}{b:Bool}(h:∀t∈usN l o,bt S t=bt S' t)(hw:Wn N l o S b):Wn N l o S' b:=by
 unfold Wn at hw⊢;cases hg:o.guard with
 |none=>rw[hg]at hw;exact hw
 |some g=>
  rw[hg]at hw;obtain⟨d,h1,h2,h3⟩:=hw;simp only[];refine⟨d,h1,h2,?_⟩;rw[←h d (jys hg h1)];exact h3
theorem Seen.put{N:Nat}{e:En}{o:Oper}{ex:Operand→TV}{b:Bool}{s:TS}(h:Seen N l e o ex b s){d:Option Tmp}{v:TV}(hd:∀t,d=some t→t∉usN l o):Seen N l e o ex b (s.put d v):=by
 rw[il];refine⟨h.hv,fun hb x hx=> ?_,h.gd.slots fun t ht=> ?_,h.fr⟩
 ·rw[jvs (fun t e1 e2=>hd t e2 (jik (by rw[←e1];exact hx)))];exact h.xs hb x hx
 ·rw[iy,if_neg fun e2=>hd t e2 ht]
theorem q62{N:Nat}{e:En}{o:Oper}{ex:Operand→TV}{b:Bool}(hwk:e.wk=uq o.op)(hxs:b=true→e.xs=o.op.operands.toList.map ex){D:Nat→Bool}{s:TS}(hg:Seen N l e o ex b s):∀{res:List RE},(∀re∈res,D re.i=true→tf e re.δ=true∧∀t,re.dst=some t→t∉usN l o)→Seen N l e o ex b (stR D s res)
 |[],_=>hg
 |re::res,h=>by
  have ih:=q62 hwk hxs hg (res:=res) fun r hr=>h r (List.mem_cons_of_mem _ hr)
  unfold stR;split
  ·rename_i hd;obtain⟨h1,h2⟩:=h re List.mem_cons_self hd;exact(Seen.aps hwk hxs ih h1).put h2
  ·exact ih
end
end Go.K
namespace Go.K
open Go.M Go.RowKit
section
variable {U : Nat → Prop} {w0 : World} {σ0 : Pl} {K : Nat → Bool} {N : Nat} {P : Program}
theorem d5.heapEq{s:TS}{a:Act}{w w' :World}{σ:Pl}(h:d5 U w0 σ0 K N s a w σ)(h1:w'.heap=w.heap)(h2:w'.os=w.os)(h3:w'.tape=w.tape)(h4:w'.output=w.output):d5 U w0 σ0 K N s a w' σ:=by
 have hV:∀T:TG,¬False→vw s.H T=(vw s.H T).map (Vw.sb fun _=> .id):=fun T _=>(qi8 _).symm
 have hm:Mv (fun _=> .id) (gr U (vw s.H) w σ) (gr U (vw s.H) w' σ):=
  Mv.upd h.hr (fun _=>False) (by rw[h1];exact Nat.le_refl _) hV (fun T _=>rfl) (fun T g o _ _=>by rw[h1]) (fun b _ _=>by rw[h1]) (fun T g o hT=>hT.elim) (fun T q _ T' e=>by cases e) (fun T T' q hT=>hT.elim) (fun T fr u xs q e=>by cases e)
 refine ARel.go h hm (fun t=>(TV.sb_id _).symm) ?_;exact h.hr.upd (fun _=>False) hm hV (fun T _=>rfl) (fun T g o _ _=>by rw[h1]) (fun T v hT=>hT.elim) (fun T p hT=>hT.elim) (fun T g o hT=>hT.elim) h.hr.inj h2 h3 h4 (fun t _ hT=>hT.elim) (fun t g o _ hT=>hT.elim)
theorem jei:∀(l:List Oper) (j:Nat),qui l j=(l[j]?).bind (·.dst)
 |[],j=>by simp[qui]
 |o::l,0=>rfl
 |o::l,j+1=>by simpa[qui]using jei l j
theorem yq{l:List Oper}{s:TS}{a:Act}{w:World}{σ:Pl}(h:d5 U w0 σ0 K N s a w σ){o:Oper}{b:Bool}(hw:Wn N l o s.S b):Region.wanted o (yielded l.toArray a.tmps)=b:=by
 unfold Wn at hw;cases hg:o.guard with
 |none=>rw[hg]at hw;subst hw;simp[Region.wanted,hg]
 |some g=>
  rw[hg]at hw;obtain⟨d,h1,h2,h3⟩:=hw;obtain⟨v,hv,hV⟩:=h.slot d h2;obtain⟨gj,gw⟩:=g;simp only[Region.wanted,hg,yielded];have e1:((l.toArray[gj]?).bind (·.dst))=some d:=by rw[jei]at h1;simpa using h1
  rw[e1];simp only[Option.bind_some,hv];rcases h3 with⟨c,e,h4⟩|⟨e,h4⟩
  ·rw[e]at hV;simp only[VR]at hV;subst hV;rw[←h4];cases c<;>cases gw<;>rfl
  ·rw[e]at hV;simp only[VR,Bool.false_eq_true,if_false]at hV;subst hV;rw[h4];rfl
end
section
variable {R Rf : Type} {X : Ctx Rf} {l : List Oper} {be rs τ : List Nat} {S0 : List (Nat × TV)} {H0 : List TOb}
theorem Tr.at_:∀{recs:List En},Tr X l be rs τ S0 H0 recs→∀e∈recs,∃o,l[e.i]? =some o∧e.dst=o.dst∧ry e.i rs=false
 |[],_,e,h=>by simp at h
 |e' ::recs,ht,e,h=>by
  obtain⟨ht,o,he⟩:=ht;rcases List.mem_cons.1 h with rfl|h
  ·exact⟨o,he.at_,he.dst,he.free⟩
  ·exact Tr.at_ ht e h
theorem Tr.split:∀{recs:List En},Tr X l be rs τ S0 H0 recs→∀e∈recs,∃later earlier o,recs=later++e::earlier∧Tr X l be rs τ S0 H0 earlier∧EnOK X l be rs τ S0 H0 earlier e o∧∀e' ∈later,e.i<e'.i
 |[],_,e,h=>by simp at h
 |e1::recs,ht,e,h=>by
  obtain⟨ht,o,he⟩:=ht;rcases List.mem_cons.1 h with rfl|hm
  ·exact⟨[],recs,o,rfl,ht,he,fun e' he' =>by simp at he'⟩
  ·obtain⟨later,earlier,o',h1,h2,h3,h4⟩:=Tr.split ht e hm;refine⟨e1::later,earlier,o',by rw[h1];rfl,h2,h3,fun e' he' => ?_⟩;rcases List.mem_cons.1 he' with rfl|he'
   ·exact he.lt e hm
   ·exact h4 e' he'
theorem qw4(D:Nat→Bool)(e:En)(m:List En):rm S0 H0 D (e::m)=if D e.i=true then⟨q1h (rm S0 H0 D m).S e.dst e.v,(rm S0 H0 D m).H++e.news⟩else⟨(rm S0 H0 D m).S,(rm S0 H0 D m).H++List.replicate e.news.length .gone⟩:=rfl
theorem qqn{D:Nat→Bool}{t:Nat}{m:List En}:∀{later:List En},(∀e∈later,e.dst=some t→D e.i=false)→bt (rm S0 H0 D (later++m)).S t=bt (rm S0 H0 D m).S t
 |[],_=>rfl
 |e::later,h=>by
  have ih:=qqn (m:=m) (later:=later) fun e' he' =>h e' (List.mem_cons_of_mem _ he')
  rw[List.cons_append,qw4];split
  ·rename_i hd;have:e.dst≠some t:=fun e1=>by rw[h e List.mem_cons_self e1]at hd;cases hd
   simp only[iy,if_neg this];exact ih
  ·exact ih
theorem qqm{D:Nat→Bool}{t:Nat}{m:List En}(ht:t<(rm S0 H0 D m).H.length):∀{later:List En},t<(rm S0 H0 D (later++m)).H.length∧(rm S0 H0 D (later++m)).H[t]? =(rm S0 H0 D m).H[t]?
 |[]=>⟨ht,rfl⟩
 |e::later=>by
  obtain⟨h1,h2⟩:=qqm ht (later:=later);rw[List.cons_append,qw4];split
  ·exact⟨by simp only[List.length_append];omega,by simp only[];rw[List.getElem?_append_left h1];exact h2⟩
  ·exact⟨by simp only[List.length_append];omega,by simp only[];rw[List.getElem?_append_left h1];exact h2⟩
theorem jdp{i:Nat}{t:Nat}:∀{recs:List En},t∉zR be i recs→∀e∈recs,e.n≤t→t<e.n+e.news.length→inW be e.i i=true
 |[],_,e,h,_,_=>by simp at h
 |e' ::recs,hz,e,h,h1,h2=>by
  unfold zR at hz;cases hb:inW be e'.i i with
  |true=>
   rw[hb]at hz;rcases List.mem_cons.1 h with rfl|h
   ·exact hb
   ·exact jdp hz e h h1 h2
  |false=>
   rw[hb]at hz;simp only[cond_false,List.mem_append,not_or]at hz;rcases List.mem_cons.1 h with rfl|h
   ·exact absurd (q4s.2 ⟨h1,h2⟩) hz.1
   ·exact jdp hz.2 e h h1 h2
theorem jsz(hF:Facts l be rs){D:Nat→Bool}(hcl:qxp l D){recs later earlier:List En}{e:En}{o:Oper}(hr:recs=later++e::earlier)(ht:Tr X l be rs τ S0 H0 recs)(hte:Tr X l be rs τ S0 H0 earlier)(he:EnOK X l be rs τ S0 H0 earlier e o)(hlt:∀e' ∈later,e.i<e'.i)
  (hD:D e.i=false) (hW:∀j,inW be j e.i=true→D j=true) {b:Bool} (hw:Wn X.N l o (qdf S0 earlier) b) (hHv:HvW o.op e.Hv (qta (zA be rs τ e.i earlier) (uy H0 earlier))):
  Seen X.N l e o (fun x=>qmc (zR be e.i earlier) (evT X.N (qdf S0 earlier) x)) b (rm S0 H0 D recs):=by
 have hslot:∀t∈usN l o,bt (rm S0 H0 D recs).S t=bt (qdf S0 earlier) t:=by
  intro t htu;have h1:bt (rm S0 H0 D recs).S t=bt (rm S0 H0 D (e::earlier)).S t:=by
   rw[hr];refine qqn fun e' he' hd=> ?_
   cases hb:D e'.i with
   |false=>rfl
   |true=>
    exfalso;obtain⟨o',ho',hd',hm'⟩:=ht.at_ e' (by rw[hr];exact List.mem_append_left _ he');cases hi:inW be e.i e'.i with
    |true=>rw[q2k hF.tb hcl ho' hb hi]at hD;cases hD
    |false=>
     have:=hF.aa e.i e'.i o o' (hlt e' he') he.at_ ho' he.free hi;exact(uz this).2 t (by rw[←hd'];exact hd) htu
  rw[h1];have h2:bt (rm S0 H0 D (e::earlier)).S t=bt (rm S0 H0 D earlier).S t:=by
   rw[qw4,if_neg (by simp[hD])]
  rw[h2];refine q61 fun e' he' hd=> ?_
  obtain⟨o',ho',hd',hm'⟩:=hte.at_ e' he';cases hi:inW be e'.i e.i with
  |true=>exact hW _ hi
  |false=>
   have:=hF.aa e'.i e.i o' o (he.lt e' he') ho' he.at_ hm' hi;exact absurd htu ((uz this).1 t (by rw[←hd'];exact hd)).1
 refine⟨fun t ob hob=> ?_,fun _ x hx=> ?_,hw.slots fun t htu=>(hslot t htu).symm,fun t h1 h2=> ?_⟩
 ·have key:∀ob,(qta (zA be rs τ e.i earlier) (uy H0 earlier))[t]? =some ob→ob= .gone∨(rm S0 H0 D recs).H[t]? =some ob:=by
   intro ob hob;rcases jf5 hob with hg|⟨h1,h2⟩
   ·exact .inl hg
   ·refine .inr ?_;have hlt' :t<(uy H0 earlier).length:=(List.getElem?_eq_some_iff.1 h1).1;have e0:(rm S0 H0 D (e::earlier)).H[t]? =(rm S0 H0 D earlier).H[t]? ∧t<(rm S0 H0 D (e::earlier)).H.length:=by
     have:=qqm (S0:=S0) (H0:=H0) (D:=D) (t:=t) (m:=earlier) (by rw[qhq];exact hlt') (later:=[e]);exact⟨this.2,this.1⟩
    rw[hr,(qqm e0.2).2,e0.1,jid hte,h1];intro e' he' h3 h4;exact hW _ (jdp (fun hz=>h2 (List.mem_append_right _ hz)) e' he' h3 h4)
  rcases hHv.at_ t ob hob with hg|h1|⟨hl,ob',h1,hc⟩
  ·exact .inl hg
  ·exact(key ob h1).imp_right .inl
  ·rcases key ob' h1 with hg|h2
   ·subst hg;obtain⟨_,_,_,_,_,_,⟨_,h3,_⟩|⟨_,_,_,_,h3,_⟩⟩:=hc<;>cases h3
   ·exact .inr (.inr ⟨hl,ob',h2,hc⟩)
 ·cases x with
  |tmp t=>
   have:=hslot t (jik hx);simp only[evT,rd,this];exact qcj _ _
  |const v=>exact qcj _ _
  |func f=>exact qcj _ _
  |global g=>exact qcj _ _
 ·exact jfx ht e (by rw[hr];simp) hD h1 h2
end
end Go.K
namespace Go.K
open Go.M Go.RowKit
theorem jpw{δ δ' :List St}{v v' :TV}(h:rt δ' v' =some (δ,v)):δ' =δ∧v' =v:=by
 simp only[rt,Option.some.injEq,Prod.mk.injEq]at h;exact h
theorem q9x{Rf:Type}{X:Ctx Rf}{op:Op}(hl:qdi op=true){e:Operand→TV}{H:List TOb}{δ:List St}{v:TV}(h:qin X op e H rt=some (δ,v)):δ=[]∧∀H',qin X op e H' rt=some (δ,v):=by
 have key:(∃cv:List Bool×TV,∀H',pvT X.wr X.tt H' e op=some cv)→δ=[]∧∀H',qin X op e H' rt=some (δ,v):=by
  rintro⟨⟨cs,u⟩,hp⟩;have h1:∀H',qin X op e H' rt=ckL cs (rt [] u):=fun H' =>by unfold qin;rw[hp H']
  rw[h1]at h;obtain⟨_,h2⟩:=bv h;exact⟨(jpw h2).1.symm,fun H' =>(h1 H').trans h⟩
 cases op with
 |move x=>exact key ⟨_,fun _=>rfl⟩
 |assign x=>exact key ⟨_,fun _=>rfl⟩
 |extract x i=>
  cases hp:pvT X.wr X.tt H e (.extract x i)with
  |some cv=>exact key ⟨cv,fun H' =>hp⟩
  |none=>
   unfold qin at h;rw[hp]at h;simp only[jn4]at h;cases hb:X.kp.length.ble H.length<;>simp[hb,jgw]at h
 |_=>simp[qdi]at hl
section
variable {R Rf : Type} {X : Ctx Rf} {l : List Oper} {be rs τ : List Nat} {S0 : List (Nat × TV)} {H0 : List TOb} {recs : List En} {s0 : TS}
theorem TrR.at_:∀{res:List RE},TrR X l be rs recs s0 res→∀e∈res,∃o,l[e.i]? =some o∧e.dst=o.dst∧ry e.i rs=true∧qr7 be e.i e.δ recs=true
 |[],_,e,h=>by simp at h
 |e' ::res,ht,e,h=>by
  obtain⟨ht,o,he⟩:=ht;rcases List.mem_cons.1 h with rfl|h
  ·refine⟨o,he.at_,he.dst,he.wr,?_⟩;rcases he.run with⟨_,_,h3⟩|⟨_,h2,_⟩
   ·exact h3
   ·rw[h2];have:∀m:List En,qr7 be e.i [] m=true:=by
     intro m
     induction m with
     |nil=>rfl
     |cons a m ih=>simp[qr7,tf,ih]
    exact this recs
  ·exact TrR.at_ ht e h
theorem TrR.split:∀{res:List RE},TrR X l be rs recs s0 res→∀e∈res,∃later earlier o,res=later++e::earlier∧REOK X l be rs recs s0 earlier e o∧∀e' ∈later,e.i<e'.i
 |[],_,e,h=>by simp at h
 |e1::res,ht,e,h=>by
  obtain⟨ht,o,he⟩:=ht;rcases List.mem_cons.1 h with rfl|hm
  ·exact⟨[],res,o,rfl,he,fun e' he' =>by simp at he'⟩
  ·obtain⟨later,earlier,o',h1,h3,h4⟩:=TrR.split ht e hm;refine⟨e1::later,earlier,o',by rw[h1];rfl,h3,fun e' he' => ?_⟩;rcases List.mem_cons.1 he' with rfl|he'
   ·exact he.lt e hm
   ·exact h4 e' he'
theorem jfh{i:Nat}{δ:List St}:∀{recs:List En},qr7 be i δ recs=true→∀e∈recs,inW be e.i i=true∨tf e δ=true
 |[],_,e,h=>by simp at h
 |e' ::recs,ho,e,h=>by
  simp only[qr7,Bool.and_eq_true,Bool.or_eq_true]at ho;rcases List.mem_cons.1 h with rfl|h
  ·exact ho.1
  ·exact jfh ho.2 e h
theorem jas{D:Nat→Bool}{s:TS}{m:List RE}:∀{later:List RE},(∀e∈later,D e.i=false)→stR D s (later++m)=stR D s m
 |[],_=>rfl
 |e::later,h=>by
  show(if D e.i=true then _ else stR D s (later++m))=_;rw[if_neg (by simp[h e List.mem_cons_self])];exact jas fun e' he' =>h e' (List.mem_cons_of_mem _ he')
theorem jkg{D:Nat→Bool}{s:TS}:∀{m:List RE},(∀e∈m,D e.i=true)→stR D s m=canR s m
 |[],_=>rfl
 |e::m,h=>by
  show(if D e.i=true then((stR D s m).aps e.δ).put e.dst e.v else _)=((canR s m).aps e.δ).put e.dst e.v;rw[if_pos (h e List.mem_cons_self),jkg fun e' he' =>h e' (List.mem_cons_of_mem _ he')]
theorem jar{D D' :Nat→Bool}{s:TS}:∀{m:List RE},(∀e∈m,D e.i=D' e.i)→stR D s m=stR D' s m
 |[],_=>rfl
 |e::m,h=>by
  show(if D e.i=true then((stR D s m).aps e.δ).put e.dst e.v else stR D s m)=(if D' e.i=true then((stR D' s m).aps e.δ).put e.dst e.v else stR D' s m);rw[h e List.mem_cons_self,jar fun e' he' =>h e' (List.mem_cons_of_mem _ he')]
theorem TrR.at2:∀{res:List RE},TrR X l be rs recs s0 res→∀e∈res,(qtp be e.i rs=true∨qu6 e.δ=true)∧∀o,l[e.i]? =some o→qdi o.op=true→e.δ=[]
 |[],_,e,h=>by simp at h
 |e' ::res,ht,e,h=>by
  obtain⟨ht,o,he⟩:=ht;rcases List.mem_cons.1 h with rfl|h
  ·refine⟨he.ord,fun o2 h1 hl=> ?_⟩;have:o2=o:=by have:=he.at_;rw[h1]at this;injection this
   subst this;rcases he.run with⟨_,h2,_⟩|⟨_,h2,_⟩
   ·exact(q9x hl h2).1
   ·exact h2
  ·exact TrR.at2 ht e h
theorem q99{i:Nat}:∀{m:List Nat},qtp be i m=true→∀r∈m,r=i∨inW be r i=true∨inW be i r=true
 |[],_,r,h=>by simp at h
 |a::m,ho,r,h=>by
  unfold qtp at ho;obtain⟨h1,h2⟩:=jbe ho;rcases List.mem_cons.1 h with rfl|h
  ·simp only[Bool.or_eq_true]at h1;exact h1.imp a8 id
  ·exact q99 h2 r h
theorem jx5(ht:qw7 be 0 l=true){i j:Nat}{o:Oper}(ho:l[i]? =some o)(hj:inW be j i=true):j<i:=by
 have hcl:qxp l (fun k=>decide (k<i)):=fun k hk m hm=>by
  have hk:k<i:=of_decide_eq_true hk;have hkl:k<l.length:=by have:=(List.getElem?_eq_some_iff.1 ho).1;omega
  have hok:l[k]? =some l[k]:=List.getElem?_eq_getElem hkl;have hm2:m∈onN l[k]:=by rw[←q2s hok];exact hm
  have:=(q67 ht k _ hok).2 m hm2;exact decide_eq_true (by omega)
 have:=jge ht hcl i o ho (fun k hk=>by
  have hk2:k∈onN o:=by rw[←q2s ho];exact hk
  have:=(q67 ht i o ho).2 k hk2;exact decide_eq_true (by omega)) j hj
 exact of_decide_eq_true this
structure Ind (e e' : RE) : Prop where
 n1 : qu6 e.δ = true
 n2 : qu6 e'.δ = true
 nil : e.δ = [] ∨ e'.δ = []
 ne : ∀ d, e.dst = some d → e'.dst ≠ some d
theorem jom(hF:Facts l be rs){res:List RE}(ht:TrR X l be rs recs s0 res){e e' :RE}(he:e∈res)(he' :e' ∈res)(hlt:e.i<e'.i)(hn:inW be e.i e'.i=false){o o' :Oper}(ho:l[e.i]? =some o)(ho' :l[e'.i]? =some o'):
  Ind e e' ∧qud l o o' =false∧(qdi o.op=false→e'.δ=[])∧(qdi o'.op=false→e.δ=[]):=by
 obtain⟨o1,h1,d1,m1,_⟩:=ht.at_ e he;obtain⟨o2,h2,d2,m2,_⟩:=ht.at_ e' he';have:o1=o:=by rw[ho]at h1;injection h1 with h1;exact h1.symm
 subst this;have:o2=o' :=by rw[ho']at h2;injection h2 with h2;exact h2.symm
 subst this;obtain⟨r1,l1⟩:=ht.at2 e he;obtain⟨r2,l2⟩:=ht.at2 e' he';rcases hF.rr e.i e'.i o1 o2 hlt ho ho' m1 m2 with h|⟨hc,hl⟩
 ·rw[hn]at h;cases h
 ·have hn' :inW be e'.i e.i=false:=by
   cases hb:inW be e'.i e.i with
   |false=>rfl
   |true=>have:=jx5 hF.tb ho hb;omega
  have nord:∀{a b:RE},a.i≠b.i→ry b.i rs=true→inW be a.i b.i=false→inW be b.i a.i=false→(qtp be a.i rs=true∨qu6 a.δ=true)→qu6 a.δ=true:=fun{a b} hne hm w1 w2 hor=>by
   rcases hor with h|h
   ·rcases q99 h b.i (q4e.1 hm)with e1|e1|e1
    ·exact absurd e1.symm hne
    ·rw[w2]at e1;cases e1
    ·rw[w1]at e1;cases e1
   ·exact h
  refine⟨⟨nord (by omega) m2 hn hn' r1,nord (by omega) m1 hn' hn r2,hl.imp (l1 _ ho) (l2 _ ho'),fun d hd=> ?_⟩,hc,fun hl' => ?_,fun hl' => ?_⟩
  ·rw[d2];exact((uz hc).1 d (by rw[←d1];exact hd)).2
  ·rcases hl with hl|hl
   ·rw[hl']at hl;cases hl
   ·exact l2 _ ho' hl
  ·rcases hl with hl|hl
   ·exact l1 _ ho hl
   ·rw[hl']at hl;cases hl
theorem jbd:∀{δ:List St} {s s' :TS},s.H=s'.H→(s.aps δ).H=(s'.aps δ).H
 |[],_,_,h=>h
 |x::δ,s,s',h=>jbd (δ:=δ) (by simp only[TS.ap,h])
theorem q86:∀{δ:List St} {s:TS},qu6 δ=true→(s.aps δ).S=s.S
 |[],_,_=>rfl
 | .sb _::_,_,h=>by simp[qu6]at h
 | .set t o::δ,s,h=>(q86 (δ:=δ) (s:=s.ap (.set t o)) h).trans rfl
 | .new t o::δ,s,h=>(q86 (δ:=δ) (s:=s.ap (.new t o)) h).trans rfl
theorem jd3{t:Nat}:∀{δ:List St} {s s' :TS},bt s.S t=bt s'.S t→bt (s.aps δ).S t=bt (s'.aps δ).S t
 |[],_,_,h=>h
 |x::δ,s,s',h=>jd3 (δ:=δ) (by
  cases x with
  |sb θ=>simp only[TS.ap,sAp,gc,h]
  |set t o=>exact h
  |new t o=>exact h)
theorem jjv{δ:List St}{s:TS}{d:Option Tmp}{v:TV}(h:qu6 δ=true):Ext ((s.put d v).aps δ) ((s.aps δ).put d v):=by
 refine⟨?_,fun t=> ?_⟩
 ·rw[q0o];exact jbd (by rw[q0o])
 ·rw[q86 h,il,il];simp only[iy,q86 h]
theorem jkh{D:Nat→Bool}{s:TS}{re:RE}{earlier:List RE}(hD:D re.i=false)(he:∀e∈earlier,e.i≠re.i):∀{later:List RE},(∀e∈later,e.i≠re.i)→(∀e∈later,D e.i=true→Ind re e)→
  Ext (stR (nj D re.i) s (later++re::earlier)) (((stR D s (later++re::earlier)).aps re.δ).put re.dst re.v)
 |[],_,_=>by
  show Ext (if nj D re.i re.i=true then((stR (nj D re.i) s earlier).aps re.δ).put re.dst re.v else _) (((if D re.i=true then _ else stR D s earlier).aps re.δ).put re.dst re.v);rw[if_pos jeh,if_neg (by simp[hD]),jar (D:=nj D re.i) (D' :=D) fun e hm=>qiy (he e hm)];exact Ext.refl _
 |e::later,hl,hi=>by
  have ih:=jkh (s:=s) hD he (later:=later) (fun e' he' =>hl e' (List.mem_cons_of_mem _ he')) (fun e' he' =>hi e' (List.mem_cons_of_mem _ he'));have hne:=hl e List.mem_cons_self;show Ext (if nj D re.i e.i=true then((stR (nj D re.i) s (later++re::earlier)).aps e.δ).put e.dst e.v else stR (nj D re.i) s (later++re::earlier)) (((if D e.i=true then((stR D s (later++re::earlier)).aps e.δ).put e.dst e.v else stR D s (later++re::earlier)).aps re.δ).put re.dst re.v);rw[qiy hne];cases hb:D e.i with
  |false=>
   rw[if_neg (by simp),if_neg (by simp)];exact ih
  |true=>
   rw[if_pos rfl,if_pos rfl];have hI:=hi e List.mem_cons_self hb;generalize stR D s (later++re::earlier)=Y at ih;have h1:=((ih.aps e.δ).put e.dst e.v).trans ((jjv hI.n2).put e.dst e.v);have h2:Ext (((Y.aps e.δ).put e.dst e.v).aps re.δ) (((Y.aps e.δ).aps re.δ).put e.dst e.v):=jjv hI.n1;have h3:(Y.aps re.δ).aps e.δ=(Y.aps e.δ).aps re.δ:=by
    rcases hI.nil with h|h<;>rw[h]<;>rfl
   rw[h3]at h1;refine h1.trans (Ext.trans ?_ (h2.put re.dst re.v).symm);generalize(Y.aps e.δ).aps re.δ=Z;refine⟨by simp only[q0o],fun t=> ?_⟩;rw[il,il,il,il];simp only[iy];by_cases a:e.dst=some t
   ·by_cases b:re.dst=some t
    ·exact absurd a (hI.ne t b)
    ·simp[a,b]
   ·simp[a]
theorem jat{D:Nat→Bool}{s:TS}{re:RE}{earlier:List RE}{t:Nat}(hD:D re.i=false)(he:∀e∈earlier,D e.i=false→qu6 e.δ=true∧e.dst≠some t):∀{later:List RE},(∀e∈later,D e.i=true→qu6 e.δ=true∧e.dst≠some t)→
  bt (stR D s (later++re::earlier)).S t=bt (canR s earlier).S t
 |[],_=>by
  show bt (if D re.i=true then _ else stR D s earlier).S t=_;rw[if_neg (by simp[hD])];clear hD
  induction earlier with
  |nil=>rfl
  |cons e m ih=>
   have ih:=ih fun e' he' =>he e' (List.mem_cons_of_mem _ he')
   show bt (if D e.i=true then((stR D s m).aps e.δ).put e.dst e.v else stR D s m).S t=bt (((canR s m).aps e.δ).put e.dst e.v).S t;cases hb:D e.i with
   |true=>
    rw[if_pos rfl,il,il];simp only[iy];split
    ·rfl
    ·exact jd3 ih
   |false=>
    obtain⟨h1,h2⟩:=he e List.mem_cons_self hb;rw[if_neg (by simp),il];simp only[iy,if_neg h2,q86 h1];exact ih
 |e::later,hl=>by
  have ih:=jat (s:=s) hD he (later:=later) fun e' he' =>hl e' (List.mem_cons_of_mem _ he')
  show bt (if D e.i=true then((stR D s (later++re::earlier)).aps e.δ).put e.dst e.v else stR D s (later++re::earlier)).S t=_;cases hb:D e.i with
  |true=>
   obtain⟨h1,h2⟩:=hl e List.mem_cons_self hb;rw[if_pos rfl,il];simp only[iy,if_neg h2,q86 h1];exact ih
  |false=>
   rw[if_neg (by simp)];exact ih
theorem jfy{D:Nat→Bool}{s:TS}{re:RE}{earlier:List RE}(hD:D re.i=false)(he:∀e∈earlier,D e.i=false→e.δ=[]):∀{later:List RE},(∀e∈later,D e.i=true→e.δ=[])→
  (stR D s (later++re::earlier)).H=(canR s earlier).H
 |[],_=>by
  show(if D re.i=true then _ else stR D s earlier).H=_;rw[if_neg (by simp[hD])];clear hD
  induction earlier with
  |nil=>rfl
  |cons e m ih=>
   have ih:=ih fun e' he' =>he e' (List.mem_cons_of_mem _ he')
   show(if D e.i=true then((stR D s m).aps e.δ).put e.dst e.v else stR D s m).H=(((canR s m).aps e.δ).put e.dst e.v).H;cases hb:D e.i with
   |true=>
    rw[if_pos rfl,q0o,q0o];exact jbd ih
   |false=>
    rw[if_neg (by simp),q0o,he e List.mem_cons_self hb];exact ih
 |e::later,hl=>by
  have ih:=jfy (s:=s) hD he (later:=later) fun e' he' =>hl e' (List.mem_cons_of_mem _ he')
  show(if D e.i=true then((stR D s (later++re::earlier)).aps e.δ).put e.dst e.v else stR D s (later++re::earlier)).H=_;cases hb:D e.i with
  |true=>
   rw[if_pos rfl,q0o,hl e List.mem_cons_self hb];exact ih
  |false=>
   rw[if_neg (by simp)];exact ih
structure Sim (Zt Zs : Nat → Prop) (s s' : TS) : Prop where
 len : s.H.length = s'.H.length
 H : ∀ t : Nat, ¬ Zt t → s.H[t]? = s'.H[t]?
 S : ∀ t, ¬ Zs t → bt s.S t = bt s'.S t
theorem Sim.ap{Zt Zs:Nat→Prop}{s s' :TS}(h:Sim Zt Zs s s')(x:St):Sim Zt Zs (s.ap x) (s'.ap x):=by
 cases x with
 |sb θ=>exact⟨by simp only[TS.ap,hAp,da];exact h.len,fun t ht=>by simp only[TS.ap,hAp,ia,h.H t ht],fun t ht=>by simp only[TS.ap,sAp,gc,h.S t ht]⟩
 |set t' o=>exact⟨by simp only[TS.ap,hAp,List.length_set];exact h.len,fun t ht=>by simp only[TS.ap,hAp,List.getElem?_set,h.len,h.H t ht],h.S⟩
 |new t' o=>
  refine⟨?_,fun t ht=> ?_,h.S⟩
  ·simp only[TS.ap,hAp,f4,h.len];cases Nat.blt t' s'.H.length<;>simp[h.len]
  ·simp only[TS.ap,hAp,f4,h.len];cases Nat.blt t' s'.H.length with
   |true=>simp only[cond_true,List.getElem?_set,h.len,h.H t ht]
   |false=>simp only[cond_false,List.getElem?_append,h.len,h.H t ht]
theorem Sim.aps{Zt Zs:Nat→Prop}:∀{δ:List St} {s s' :TS},Sim Zt Zs s s' →Sim Zt Zs (s.aps δ) (s'.aps δ)
 |[],_,_,h=>h
 |x::δ,s,s',h=>Sim.aps (δ:=δ) (h.ap x)
theorem Sim.put{Zt Zs:Nat→Prop}{s s' :TS}(h:Sim Zt Zs s s')(d:Option Tmp)(v:TV):Sim Zt Zs (s.put d v) (s'.put d v):=by
 rw[il,il];exact⟨h.len,h.H,fun t ht=>by simp only[iy,h.S t ht]⟩
theorem Sim.canR{Zt Zs:Nat→Prop}{s s' :TS}(h:Sim Zt Zs s s'):∀(res:List RE),Sim Zt Zs (canR s res) (canR s' res)
 |[]=>h
 |e::res=>((Sim.canR h res).aps (δ:=e.δ)).put e.dst e.v
theorem Ext.canR{s s' :TS}(h:Ext s s'):∀(res:List RE),Ext (canR s res) (canR s' res)
 |[]=>h
 |e::res=>((Ext.canR h res).aps e.δ).put e.dst e.v
theorem jke(ht:Tr X l be rs τ S0 H0 recs)(D:Nat→Bool):Sim (fun t=>∃e∈recs,D e.i=false∧e.n≤t∧t<e.n+e.news.length) (fun t=>∃e∈recs,D e.i=false∧e.dst=some t) (rm S0 H0 D recs) ⟨qdf S0 recs,uy H0 recs⟩:=by
 refine⟨qhq D recs,fun t hz=>jid ht fun e he h1 h2=> ?_,fun t hz=>q61 fun e he h1=> ?_⟩
 ·cases hb:D e.i with
  |true=>rfl
  |false=>exact absurd ⟨e,he,hb,h1,h2⟩ hz
 ·cases hb:D e.i with
  |true=>rfl
  |false=>exact absurd ⟨e,he,hb,h1⟩ hz
end
section
variable {U : Nat → Prop} {w0 : World} {σ0 : Pl} {K : Nat → Bool} {P : Program} {R Rf : Type}
theorem jyx(H:List TOb)(n:Nat):vw (H++List.replicate n .gone)=vw H:=by
 funext T;have key:∀t:Nat,(H++List.replicate n TOb.gone)[t]? =H[t]? ∨(H[t]? =none∧(H++List.replicate n TOb.gone)[t]? =some .gone):=by
  intro t;rcases Nat.lt_or_ge t H.length with h1|h1
  ·exact .inl (List.getElem?_append_left h1)
  ·rw[List.getElem?_append_right h1,List.getElem?_eq_none h1,List.getElem?_replicate];split
   ·exact .inr ⟨rfl,rfl⟩
   ·exact .inl rfl
 cases T with
 |o t=>rcases key t with e|⟨e1,e2⟩<;>simp only[vw]<;>first|rw[e]|(rw[e1,e2];rfl)
 |r t i f=>rcases key t with e|⟨e1,e2⟩<;>simp only[vw]<;>first|rw[e]|(rw[e1,e2];rfl)
theorem q2x{δ δ' :List St}{v v' :TV}(h:rt δ' v' =some (δ,v)):δ' =δ∧v' =v:=by
 simp only[rt,Option.some.injEq,Prod.mk.injEq]at h;exact h
theorem jq3{X:Ctx Rf}(hX:CtxOK P X)(hmix:P.follows .mixedOrders=true)(hK:∀t,bw X.kp t=false→K t=false){id:Nat}{l:List Oper}{be rs τ:List Nat}{s:TS}{k:TS→Option R}{r:R}(h:jvq X l be rs τ s k=some r)
  {Q:Exit→Act→World→Prop} (hQ:∀s' a' w' σ',d5 U w0 σ0 K X.N s' a' w' σ' →k s' =some r→Q .normal a' w') {a:Act} {w:World} {σ:Pl} (hr:d5 U w0 σ0 K X.N s a w σ):(Code.region id l.toArray true).wp P Q a w:=by
 unfold jvq at h;obtain⟨hdr,h⟩:=ag h;have hF:=facts hdr;obtain⟨recs,S',htr,hcov,hS',h⟩:=jrx (S0:=s.S) (H0:=s.H) l 0 s.S [] rfl trivial (fun e he=>by simp at he) (fun j hj=>by omega) (fun _=>rfl) h;obtain⟨res,sf,htrR,hcovR,hsf,hk⟩:=jry (s0:=⟨qdf s.S recs,uy s.H recs⟩) l 0 ⟨S',uy s.H recs⟩ [] rfl trivial (fun e he=>by simp at he) (fun j hj=>by omega) ⟨rfl,hS'⟩ h;clear h;have hback:∀i k,k∈qyi l i→k<i:=by
  intro i k hk;cases ho:l[i]? with
  |none=>simp[qyi,ho]at hk
  |some o=>
   rw[q2s ho]at hk;have:=(q67 hF.tb i o ho).2 k hk;omega
 refine jn1 hmix hback (fun D a w=>∃σ,d5 U w0 σ0 K X.N (stR D (rm s.S s.H D recs) res) a w σ) ?_ ?_ ?_
 ·
  intro D i o a w hcl hbey ho hDi hon ⟨σ,hr⟩ KK hKK;have hW:=fun j hj=>jge hF.tb hcl i o ho hon j hj
  have hil:i<l.length:=(List.getElem?_eq_some_iff.1 ho).1;cases hm:ry i rs with
  |false=>
   obtain⟨e,hem,rfl⟩:=hcov i hil hil hm;obtain⟨later,earlier,o',hrec,hte,he,hlt⟩:=htr.split e hem;have hoo:o' =o:=by have:=he.at_;rw[ho]at this;injection this with this;exact this.symm
   subst hoo;have hRes:∀re∈res,D re.i=true→tf e re.δ=true∧∀t,re.dst=some t→e.dst≠some t∧t∉usN l o' :=by
    intro re hre hD;obtain⟨o2,h1,h2,h3,h4⟩:=htrR.at_ re hre;have hni:inW be e.i re.i=false:=by
     cases hb:inW be e.i re.i with
     |false=>rfl
     |true=>rw[q2k hF.tb hcl h1 hD hb]at hDi;cases hDi
    refine⟨?_,fun t ht=> ?_⟩
    ·rcases jfh h4 e hem with hb|hb
     ·rw[hni]at hb;cases hb
     ·exact hb
    ·rw[h2]at ht;rw[he.dst];rcases Nat.lt_trichotomy e.i re.i with hlt' |heq|hgt
     ·have hc:=uz (hF.aa e.i re.i o' o2 hlt' ho h1 hm hni);exact⟨fun e1=>(hc.1 t e1).2 ht,hc.2 t ht⟩
     ·rw[heq]at hm;rw[hm]at h3;cases h3
     ·have hc:=uz (hF.ra re.i e.i o2 o' hgt h1 ho h3 hm);exact⟨(hc.1 t ht).2,(hc.1 t ht).1⟩
   have hnew:Ext (stR (nj D e.i) (rm s.S s.H (nj D e.i) recs) res) (apE e (stR D (rm s.S s.H D recs) res))∧e.n+e.news.length≤(stR D (rm s.S s.H D recs) res).H.length:=by
    refine jkf (by rw[qhq];exact(Tr.bnd htr e hem).2) (jkd htr e hem hDi fun e' he' hlt' hD' d hd=> ?_) (fun re hre=> ?_) (fun re hre hD=>⟨(hRes re hre hD).1,fun t ht=>((hRes re hre hD).2 t ht).1⟩)
    ·obtain⟨o2,h1,h2,h3⟩:=htr.at_ e' he';have hni:inW be e.i e'.i=false:=by
      cases hb:inW be e.i e'.i with
      |false=>rfl
      |true=>rw[q2k hF.tb hcl h1 hD' hb]at hDi;cases hDi
     have hc:=uz (hF.aa e.i e'.i o' o2 hlt' ho h1 hm hni);rw[he.dst];exact fun e1=>(hc.1 d e1).2 (by rw[←h2];exact hd)
    ·obtain⟨o2,h1,h2,h3,h4⟩:=htrR.at_ re hre;exact qiy fun e1=>by rw[e1,hm]at h3;cases h3
   have hgo:∀a' w' σ',d5 U w0 σ0 K X.N (apE e (stR D (rm s.S s.H D recs) res)) a' w' σ' →KK a' w' :=fun a' w' σ' h' =>hKK a' w' ⟨σ',h'.ext hnew.1.symm⟩
   rcases he.run with⟨hw,hxs,hHv,δ,hst,hobs⟩|⟨hw,hv,hnews,hHv,hxs⟩
   ·have hseen:=q62 he.wk (fun _=>hxs) (jsz hF hcl hrec htr hte he hlt hDi hW hw hHv) (D:=D) (res:=res) (fun re hre hD=>⟨(hRes re hre hD).1,fun t ht=>((hRes re hre hD).2 t ht).2⟩);rw[yq hr hseen.gd,if_pos rfl];have hdoes:n6 P U w0 σ0 K X.N o' (stR D (rm s.S s.H D recs) res) a w rt (δ,e.v):=by
     cases hld:uq o'.op with
     |true=>
      refine jmu hX hr (jmj hr.hr.sees fun t ob hob=> ?_) hld (fun x hx=>Wk.vr _ _ _ (hseen.xs rfl x hx) (hr.ev x)) hst;rcases hseen.hv t ob hob with h1|h1|⟨_,h1⟩
      ·exact .inl h1
      ·exact .inr (.inl h1)
      ·exact .inr (.inr h1)
     |false=>
      have hl:HLe (fun t=>e.n≤t∧t<e.n+e.news.length) e.Hv (stR D (rm s.S s.H D recs) res).H:=by
       refine⟨fun t ob hob=> ?_,fun t _ hf=> .inr (hseen.fr t hf.1 hf.2),?_⟩
       ·rcases hseen.hv t ob hob with h1|h1|⟨h1,_⟩
        ·exact .inl h1
        ·exact .inr h1
        ·rw[hld]at h1;cases h1
       ·have:=hHv.len;rw[q0a,←he.n]at this;omega
      exact q2z hX hr hl hK (fun x hx=>Wk.vr _ _ _ (hseen.xs rfl x hx) (hr.ev x)) (fun δ' v' hrt t o hmem=>q4k hobs t o (by rw[←(q2x hrt).1];exact hmem)) hst
    obtain⟨δ',v',hrt,hdo⟩:=hdoes;obtain⟨rfl,rfl⟩:=q2x hrt;refine hdo Q KK fun a' w' σ' h' =>hgo a' w' σ' ?_
    rw[jd2 _ hobs hnew.2,il,←he.dst]at h';exact h'
   ·have hseen:=q62 (b:=false) he.wk (fun hb=>by cases hb) (jsz hF hcl hrec htr hte he hlt hDi hW hw ⟨fun t ob hob=>by rw[hHv]at hob;simp at hob,by rw[hHv];exact Nat.zero_le _⟩) (D:=D) (res:=res) (fun re hre hD=>⟨(hRes re hre hD).1,fun t ht=>((hRes re hre hD).2 t ht).2⟩);rw[yq hr hseen.gd,if_neg (by simp)];refine hgo _ _ σ ?_;have:=hr.put o'.dst (A:= .undef) (v:=undef) (by simp[VR]);rw[il]at this;unfold apE;rw[hnews,hv,he.dst];exact this
  |true=>
   obtain⟨re,hrem,rfl⟩:=hcovR i hil hil hm;obtain⟨later,earlier,o',hres,he,hlt⟩:=htrR.split re hrem;have hoo:o' =o:=by have:=he.at_;rw[ho]at this;injection this with this;exact this.symm
   subst hoo;have hnW:∀re' ∈later,D re'.i=true→inW be re.i re'.i=false:=by
    intro re' hre' hb;obtain⟨o2,h1,_⟩:=htrR.at_ re' (by rw[hres];exact List.mem_append_left _ hre');cases hi:inW be re.i re'.i with
    |false=>rfl
    |true=>rw[q2k hF.tb hcl h1 hb hi]at hDi;cases hDi
   have hlater:∀re' ∈later,D re'.i=true→Ind re re' ∧(∀d,re'.dst=some d→d∉usN l o')∧(qdi o'.op=false→re'.δ=[]):=by
    intro re' hre' hb;have hm' :re' ∈res:=by rw[hres];exact List.mem_append_left _ hre'
    obtain⟨o2,h1,h2,_⟩:=htrR.at_ re' hm';obtain⟨i1,i2,i3,_⟩:=jom hF htrR hrem hm' (hlt re' hre') (hnW re' hre' hb) ho h1;exact⟨i1,fun d hd=>(uz i2).2 d (by rw[←h2];exact hd),i3⟩
   have hearl:∀re' ∈earlier,D re'.i=false→Ind re' re∧(∀d,re'.dst=some d→d∉usN l o')∧(qdi o'.op=false→re'.δ=[]):=by
    intro re' hre' hb;have hm' :re' ∈res:=by rw[hres];exact List.mem_append_right _ (List.mem_cons_of_mem _ hre')
    obtain⟨o2,h1,h2,_⟩:=htrR.at_ re' hm';have hn:inW be re'.i re.i=false:=by
     cases hi:inW be re'.i re.i with
     |false=>rfl
     |true=>rw[hW _ hi]at hb;cases hb
    obtain⟨i1,i2,_,i4⟩:=jom hF htrR hm' hrem (he.lt re' hre') hn h1 ho;exact⟨i1,fun d hd=>((uz i2).1 d (by rw[←h2];exact hd)).1,i4⟩
   have hst1:Ext (stR (nj D re.i) (rm s.S s.H (nj D re.i) recs) res) (((stR D (rm s.S s.H D recs) res).aps re.δ).put re.dst re.v):=by
    have e1:rm s.S s.H (nj D re.i) recs=rm s.S s.H D recs:=qz4 fun e he' =>by
     obtain⟨o2,h1,h2,h3⟩:=htr.at_ e he';exact qiy fun e2=>by rw[e2,hm]at h3;cases h3
    rw[e1,hres];exact jkh hDi (fun e hem=>by have:=he.lt e hem;omega) (fun e hem=>by have:=hlt e hem;omega) fun e hem hb=>(hlater e hem hb).1
   have hsim:=(jke htr D).canR earlier;have hslot:∀t∈usN l o',bt (stR D (rm s.S s.H D recs) res).S t=bt (canR ⟨qdf s.S recs,uy s.H recs⟩ earlier).S t:=by
    intro t htu;have h0:bt (stR D (rm s.S s.H D recs) res).S t=bt (canR (rm s.S s.H D recs) earlier).S t:=by
     rw[hres];refine jat hDi (fun e hem hb=> ?_) fun e hem hb=> ?_
     ·obtain⟨i1,i2,_⟩:=hearl e hem hb;exact⟨i1.n1,fun e1=>i2 t e1 htu⟩
     ·obtain⟨i1,i2,_⟩:=hlater e hem hb;exact⟨i1.n2,fun e1=>i2 t e1 htu⟩
    refine h0.trans (hsim.S t ?_);rintro⟨e,hem,hDe,hde⟩;obtain⟨o2,h1,h2,h3⟩:=htr.at_ e hem;rcases Nat.lt_trichotomy e.i re.i with hlt' |heq|hgt
    ·cases hb:inW be e.i re.i with
     |true=>rw[hW _ hb]at hDe;cases hDe
     |false=>exact((uz (hF.aa e.i re.i o2 o' hlt' h1 ho h3 hb)).1 t (by rw[←h2];exact hde)).1 htu
    ·rw[heq,hm]at h3;cases h3
    ·exact(uz (hF.ra re.i e.i o' o2 hgt ho h1 hm h3)).2 t (by rw[←h2];exact hde) htu
   rcases he.run with⟨hw,hst,hok⟩|⟨hw,hδ,hv⟩
   ·rw[yq hr (hw.slots fun t ht=>(hslot t ht).symm),if_pos rfl];have hxs:∀x∈o'.op.operands,VR (gr U (vw (stR D (rm s.S s.H D recs) res).H) w σ) (qmc (zR be re.i recs) (evT X.N (canR ⟨qdf s.S recs,uy s.H recs⟩ earlier).S x)) (a.eval x):=by
     intro x hx;refine Wk.vr _ _ _ ?_ (hr.ev x);cases x with
     |tmp t=>
      simp only[evT,rd,hslot t (jik hx)];exact qcj _ _
     |const v=>exact qcj _ _
     |func f=>exact qcj _ _
     |global g=>exact qcj _ _
    have hdoes:n6 P U w0 σ0 K X.N o' (stR D (rm s.S s.H D recs) res) a w rt (re.δ,re.v):=by
     cases hli:qdi o'.op with
     |true=>
      obtain⟨hδ,hst'⟩:=q9x hli hst;have hl:HLe (fun _=>False) [] (stR D (rm s.S s.H D recs) res).H:=⟨fun t ob hob=>by simp at hob,fun t _ hf=>hf.elim,Nat.zero_le _⟩;exact q2z hX hr hl hK hxs (fun δ' v' hrt t o hmem=>by rw[(q2x hrt).1,hδ]at hmem;simp at hmem) (hst' [])
     |false=>
      have hH:(stR D (rm s.S s.H D recs) res).H=(canR (rm s.S s.H D recs) earlier).H:=by
       rw[hres];exact jfy hDi (fun e hem hb=>(hearl e hem hb).2.2 hli) fun e hem hb=>(hlater e hem hb).2.2 hli
      have hl:HLe (fun _=>True) (qta (zR be re.i recs) (canR ⟨qdf s.S recs,uy s.H recs⟩ earlier).H) (stR D (rm s.S s.H D recs) res).H:=by
       rw[hH];refine⟨fun t ob hob=> ?_,fun t ht _=> .inl (List.getElem?_eq_none (by rw[hsim.len];rw[q0a]at ht;exact ht)),by rw[q0a,hsim.len];exact Nat.le_refl _⟩;rcases jf5 hob with hg|⟨h1,h2⟩
       ·exact .inl hg
       ·refine .inr ?_;rw[hsim.H t,h1];rintro⟨e,hem,hDe,h3,h4⟩;rw[hW _ (jdp h2 e hem h3 h4)]at hDe;cases hDe
      exact q2z hX hr hl hK hxs (fun _ _ _ _ _ _=>trivial) hst
    obtain⟨δ',v',hrt,hdo⟩:=hdoes;obtain⟨rfl,rfl⟩:=q2x hrt;refine hdo Q KK fun a' w' σ' h' =>hKK a' w' ⟨σ',?_⟩
    rw[←he.dst]at h';exact h'.ext hst1.symm
   ·rw[yq hr (hw.slots fun t ht=>(hslot t ht).symm),if_neg (by simp)];refine hKK _ _ ⟨σ,?_⟩;have h' :=hr.put o'.dst (A:= .undef) (v:=undef) (by simp[VR]);rw[hδ,hv,he.dst]at hst1;exact h'.ext hst1.symm
 ·
  intro D a w hall hbey ⟨σ,hr⟩;have e1:Ext (rm s.S s.H D recs) ⟨qdf s.S recs,uy s.H recs⟩:=by
   have hs:=jke htr D;have hno:∀e∈recs,D e.i=true:=fun e he=>by
    obtain⟨o2,h1,_⟩:=htr.at_ e he;exact hall _ (List.getElem?_eq_some_iff.1 h1).1
   refine⟨List.ext_getElem? fun t=>hs.H t ?_,fun t=>hs.S t ?_⟩
   ·rintro⟨e,he,hb,_⟩;rw[hno e he]at hb;cases hb
   ·rintro⟨e,he,hb,_⟩;rw[hno e he]at hb;cases hb
  have e2:stR D (rm s.S s.H D recs) res=canR (rm s.S s.H D recs) res:=jkg fun re hre=>by
   obtain⟨o2,h1,_⟩:=htrR.at_ re hre;exact hall _ (List.getElem?_eq_some_iff.1 h1).1
  rw[e2]at hr;exact hQ sf a w σ ((hr.ext (e1.canR res)).ext hsf.symm) hk
 ·
  have e2:stR (fun _=>false) (rm s.S s.H (fun _=>false) recs) res=rm s.S s.H (fun _=>false) recs:=by
   have:=jas (D:=fun _=>false) (s:=rm s.S s.H (fun _=>false) recs) (m:=[]) (later:=res) fun _ _=>rfl
   rw[List.append_nil]at this;exact this
  refine⟨σ,?_⟩;rw[e2];have hpad:∀m:List En,(rm s.S s.H (fun _=>false) m).S=s.S∧vw (rm s.S s.H (fun _=>false) m).H=vw s.H:=by
   intro m
   induction m with
   |nil=>exact⟨rfl,rfl⟩
   |cons e m ih=>
    rw[qw4,if_neg (by simp)];exact⟨ih.1,(jyx _ _).trans ih.2⟩
  obtain⟨h1,h2⟩:=hpad recs;have hr' :=hr.heapEq (w' :={w with drawn:=w.drawn+1}) rfl rfl rfl rfl;show ARel _ _ _ _ _ _ _ _ _ _;rw[h1,h2];exact hr'
end
end Go.K
namespace Go.K
open Go.M Go.RowKit
inductive Ann where
 | z
 | s (n : Nat)
 | d (be rs τ : List Nat)
 | one (a : Ann)
 | two (a b : Ann)
 | u (n : Nat) (a : Ann)
def Ann.l:Ann→Ann
 | .two a _=>a
 | .one a=>a
 |_=> .z
def Ann.r:Ann→Ann
 | .two _ b=>b
 |_=> .z
def Ann.sum:Ann→Option Nat
 | .s n=>some n
 |_=>none
def Ann.unr:Ann→Option (Nat×Ann)
 | .u n a=>some (n,a)
 |_=>none
def jih:Code→List Bool→Code
 |c,[]=>c
 | .seq x _,false::p=>jih x p
 | .seq _ y,true::p=>jih y p
 | .cond _ x _,false::p=>jih x p
 | .cond _ _ y,true::p=>jih y p
 | .block _ x,_::p=>jih x p
 | .loop x,_::p=>jih x p
 |c,_=>c
def qte(f:Func):Code:=match f.body with|some c=>c|none=> .skip
section
variable {R Rf : Type}
def jyh(X:Ctx Rf)(l:List Oper)(draw:Bool)(a:Ann)(s:TS)(k:TS→Option R):Option R:=
 match draw with
 |false=>jc7 X l l s k
 |true=>match a with| .d be rs τ=>jvq X l be rs τ s k|_=>none
def jr7(f:TS→(TS→Option R)→Option R):Nat→TS→Option R
 |0,_=>none
 |n+1,s=>f s (jr7 f n)
def den(X:Ctx Rf):Code→Ann→TS→(TS→Option R)→(Nat→TS→Option R)→(Rf→Option R)→Option R
 |c,a,s,kn,ke,kr=>
  match a.sum with
  |some n=>
   match X.Λ n with
   |some σ=>match σ.dec s with|some x=>bnd (σ.m x) (fun o=>σ.cont x o kn ke kr)|none=>none
   |none=>none
  |none=>
   match c with
   | .skip=>kn s
   | .region _ ops d=>jyh X ops.toList d a s kn
   | .seq x y=>den X x a.l s (fun s' =>den X y a.r s' kn ke kr) ke kr
   | .cond c x y=>match evT X.N s.S c with| .bool g=>bif g then den X x a.l s kn ke kr else den X y a.r s kn ke kr|_=>none
   | .block id x=>den X x a.l s kn (fun id' s' =>bif Nat.beq id' id then kn s' else ke id' s') kr
   | .loop x=>match a.unr with|some (n,b)=>jr7 (fun s k=>den X x b s k ke kr) n s|none=>none
   | .exit id=>ke id s
   | .ret=>match X.res s with|some r=>kr r|none=>none
   |_=>none
end
section
variable {U : Nat → Prop} {w0 : World} {σ0 : Pl} {K : Nat → Bool} {N : Nat} {P : Program} {R Rf : Type}
def CW(P:Program)(U:Nat→Prop)(w0:World)(σ0:Pl)(K:Nat→Bool)(N:Nat)(c:Code)(Q:Exit→TS→Prop)(s:TS):Prop:=
 ∀a w σ,d5 U w0 σ0 K N s a w σ→c.wp P (fun e a' w' =>∃s' σ',d5 U w0 σ0 K N s' a' w' σ' ∧Q e s') a w
def jio(X:Ctx Rf)(kn:TS→Option R)(ke:Nat→TS→Option R)(kr:Rf→Option R)(r:R):Exit→TS→Prop
 | .normal,s' =>kn s' =some r
 | .exit id,s' =>ke id s' =some r
 | .ret,s' =>∃x,X.res s' =some x∧kr x=some r
 |_,_=>False
def q85(X:Ctx Rf)(K:Nat→Bool):Prop:=∀t,bw X.kp t=false→K t=false
def ax(P:Program)(X:Ctx Rf)(n:Nat)(c:Code):Prop:=
 ∀σ,X.Λ n=some σ→∀(U:Nat→Prop) (w0:World) (σ0:Pl) (K:Nat→Bool),q85 X K→∀(R:Type) (s:TS) (x:σ.A) (o:σ.O) (kn:TS→Option R) (ke:Nat→TS→Option R) (kr:Rf→Option R) (r:R),
  σ.dec s=some x→σ.m x=some o→σ.cont x o kn ke kr=some r→CW P U w0 σ0 K X.N c (jio X kn ke kr r) s
def ro:Code→Ann→List (Nat×Code)
 |c,a=>
  match a.sum with
  |some n=>[(n,c)]
  |none=>
   match c with
   | .seq x y=>ro x a.l++ro y a.r
   | .cond _ x y=>ro x a.l++ro y a.r
   | .block _ x=>ro x a.l
   | .loop x=>match a.unr with|some (_,b)=>ro x b|none=>[]
   |_=>[]
theorem jcj{X:Ctx Rf}(hX:CtxOK P X)(hK:q85 X K){o:Oper}{s:TS}{k:TS→Option R}{r:R}(h:opT X o s k=some r){a:Act}{w:World}{σ:Pl}(hr:d5 U w0 σ0 K X.N s a w σ){Q:Exit→Act→World→Prop}{KK:Act→World→Prop}
  (hKK:∀s' a' w' σ',d5 U w0 σ0 K X.N s' a' w' σ' →k s' =some r→KK a' w'):o.wp P a w KK Q:=by
 unfold opT at h;obtain⟨δ,v,hk,hdo⟩:=q2z (F:=fun _=>True) hX hr (HLe.refl s.H) hK (fun x _=>hr.ev x) (fun _ _ _ _ _ _=>trivial) h;exact hdo Q KK fun a' w' σ' h' =>hKK _ a' w' σ' h' hk
theorem jj2{X:Ctx Rf}(hX:CtxOK P X)(hK:q85 X K){all:List Oper}{k:TS→Option R}{r:R}{Q:Exit→Act→World→Prop}(hQ:∀s' a' w' σ',d5 U w0 σ0 K X.N s' a' w' σ' →k s' =some r→Q .normal a' w'):
  ∀(l:List Oper) (s:TS) (a:Act) (w:World) (σ:Pl),d5 U w0 σ0 K X.N s a w σ→jc7 X all l s k=some r→wpList P all.toArray Q l a w:=by
 intro l
 induction l with
 |nil=>intro s a w σ hr h;exact hQ s a w σ hr h
 |cons o rest ih=>
  intro s a w σ hr h;unfold jc7 jp4 at h;split at h
  ·rename_i hg;exact wpList_plain hg fun K' hK' =>jcj hX hK h hr fun s' a' w' σ' h' hk=>hK' _ _ (ih s' a' w' σ' h' hk)
  ·rename_i g hg;obtain⟨S1,hext,hcase⟩:=qk3 hg h;have hr1:d5 U w0 σ0 K X.N ⟨S1,s.H⟩ a w σ:=d5.ext (s:=s) (s' :=⟨S1,s.H⟩) ⟨rfl,fun t=>(hext t).symm⟩ hr;refine wpList_step fun K' hK' => ?_
   rcases hcase with⟨hw,h1⟩|⟨hw,h1⟩
   ·rw[yq hr hw];simp only[if_true];exact jcj hX hK h1 hr1 fun s' a' w' σ' h' hk=>hK' _ _ (ih s' a' w' σ' h' hk)
   ·rw[yq hr hw];simp only[Bool.false_eq_true,if_false];exact hK' _ _ (ih _ _ _ σ (hr1.put o.dst (A:= .undef) (v:=undef) (by simp[VR])) h1)
theorem jrp{X:Ctx Rf}(hX:CtxOK P X)(hmix:P.follows .mixedOrders=true)(hK:q85 X K){id:Nat}{l:List Oper}{d:Bool}{an:Ann}{s:TS}{k:TS→Option R}{r:R}(h:jyh X l d an s k=some r){Q:Exit→TS→Prop}(hQ:∀s',k s' =some r→Q .normal s'):
  CW P U w0 σ0 K X.N (.region id l.toArray d) Q s:=by
 intro a w σ hr;unfold jyh at h;split at h
 ·refine wp_region_lit ?_;exact jj2 hX hK (fun s' a' w' σ' h' hk=>⟨s',σ',h',hQ s' hk⟩) l s a w σ hr h
 ·split at h
  ·exact jq3 hX hmix hK h (fun s' a' w' σ' h' hk=>⟨s',σ',h',hQ s' hk⟩) hr
  ·cases h
theorem CW.mono{c:Code}{Q Q' :Exit→TS→Prop}{s:TS}(hq:∀e s,Q e s→Q' e s)(h:CW P U w0 σ0 K N c Q s):CW P U w0 σ0 K N c Q' s:=
 fun a w σ hr=>Code.wp_mono (fun _ _ _ ⟨s',σ',h1,h2⟩=>⟨s',σ',h1,hq _ _ h2⟩) (h a w σ hr)
theorem CW.loop{ι:Type}{body:Code}{Q:Exit→TS→Prop}(I:ι→TS)(ok:ι→Prop)(μ:ι→Nat)
  (round:∀i,ok i→∀a w σ,d5 U w0 σ0 K N (I i) a w σ→body.wp P (fun e a' w' =>match e with| .normal=>∃j σ',ok j∧μ j<μ i∧d5 U w0 σ0 K N (I j) a' w' σ' |e=>∃s' σ',d5 U w0 σ0 K N s' a' w' σ' ∧Q e s') a w):
  ∀i0,ok i0→CW P U w0 σ0 K N (.loop body) Q (I i0):=by
 intro i0 h0 a w σ hr
 suffices H:∀n i a w σ,ok i→μ i=n→d5 U w0 σ0 K N (I i) a w σ→∀b k cs,∃e a' w',(∃s' σ',d5 U w0 σ0 K N s' a' w' σ' ∧Q e s')∧Arrives P (lone (b.at a (.code body:: .inLoop body::k)) cs w) b k cs e a' w' by
  intro b k cs;obtain⟨e,a',w',hq,harr⟩:=H (μ i0) i0 a w σ h0 rfl hr b k cs;exact⟨e,a',w',hq, .of_steps (.one step_loop) harr⟩
 intro n
 induction n using Nat.strongRecOn with
 |_ n ih=>
  intro i a w σ hok hn hrel b k cs;obtain⟨e,a₁,w₁,hq,harr⟩:=round i hok a w σ hrel b (.inLoop body::k) cs;cases e with
  |normal=>
   obtain⟨j,σ2,hj,hlt,hr2⟩:=hq;obtain⟨e,a',w',hq',harr'⟩:=ih (μ j) (hn▸hlt) j a₁ w₁ σ2 hj rfl hr2 b k cs;exact⟨e,a',w',hq', .of_steps (Steps.trans harr (.one step_inLoop)) harr'⟩
  |exit id=>exact⟨_,a₁,w₁,hq,fun k' hk=>harr k' (by simpa[exitTo]using hk)⟩
  |goto l=>exact⟨_,a₁,w₁,hq,fun k' hk=>harr k' (by simpa[gotoIn]using hk)⟩
  |ret=>exact⟨_,a₁,w₁,hq,harr⟩
  |panic chain=>exact⟨_,a₁,w₁,hq,harr⟩
  |outgrown=>exact⟨_,a₁,w₁,hq,harr⟩
theorem qub{α β:Type}{m:Option α}{f:α→Option β}{r:β}(h:bnd m f=some r):∃x,m=some x∧f x=some r:=by
 cases m with
 |none=>cases h
 |some x=>exact⟨x,rfl,h⟩
theorem q3g{X:Ctx Rf}(hX:CtxOK P X)(hmix:P.follows .mixedOrders=true)(hK:q85 X K){r:R}:∀(c:Code) (a:Ann) (s:TS) (kn:TS→Option R) (ke:Nat→TS→Option R) (kr:Rf→Option R),
  (∀p∈ro c a,ax P X p.1 p.2)→den X c a s kn ke kr=some r→CW P U w0 σ0 K X.N c (jio X kn ke kr r) s:=by
 intro c
 induction c with
 |skip=>
  intro a s kn ke kr hs h;unfold den at h;split at h
  ·rename_i n hn;exact summ hs hn h
  ·exact fun a w σ hr=>wp_skip ⟨s,σ,hr,h⟩
 |region id ops d=>
  intro a s kn ke kr hs h;unfold den at h;split at h
  ·rename_i n hn;exact summ hs hn h
  ·have:=jrp (id:=id) (U:=U) (w0:=w0) (σ0:=σ0) hX hmix hK h (Q:=jio X kn ke kr r) (fun s' hk=>hk);simpa using this
 |seq x y ihx ihy=>
  intro a s kn ke kr hs h;unfold den at h;split at h
  ·rename_i n hn;exact summ hs hn h
  ·rename_i hn;have hsum:ro (.seq x y) a=ro x a.l++ro y a.r:=by conv=>lhs;unfold ro;simp only[hn]
   rw[hsum]at hs;have hx:=ihx a.l s _ ke kr (fun p hp=>hs p (List.mem_append_left _ hp)) h;intro a1 w1 σ1 hr;refine wp_seq (Code.wp_mono ?_ (hx a1 w1 σ1 hr));rintro e a' w' ⟨s',σ',h1,h2⟩;cases e with
   |normal=>exact ihy a.r s' kn ke kr (fun p hp=>hs p (List.mem_append_right _ hp)) h2 a' w' σ' h1
   |exit id=>exact⟨s',σ',h1,h2⟩
   |ret=>exact⟨s',σ',h1,h2⟩
   |_=>exact h2.elim
 |cond c x y ihx ihy=>
  intro a s kn ke kr hs h;unfold den at h;split at h
  ·rename_i n hn;exact summ hs hn h
  ·rename_i hn;have hsum:ro (.cond c x y) a=ro x a.l++ro y a.r:=by conv=>lhs;unfold ro;simp only[hn]
   rw[hsum]at hs;simp only[]at h;split at h
   ·rename_i g hg;intro a1 w1 σ1 hr;have hv:=hr.ev c;rw[hg]at hv;simp only[VR]at hv;refine wp_cond_split hv (fun hb=> ?_) (fun hb=> ?_)
    ·subst hb;exact ihx a.l s kn ke kr (fun p hp=>hs p (List.mem_append_left _ hp)) h a1 w1 σ1 hr
    ·subst hb;exact ihy a.r s kn ke kr (fun p hp=>hs p (List.mem_append_right _ hp)) h a1 w1 σ1 hr
   ·cases h
 |block id x ih=>
  intro a s kn ke kr hs h;unfold den at h;split at h
  ·rename_i n hn;exact summ hs hn h
  ·rename_i hn;have hsum:ro (.block id x) a=ro x a.l:=by conv=>lhs;unfold ro;simp only[hn]
   rw[hsum]at hs;have hx:=ih a.l s _ _ kr hs h;intro a1 w1 σ1 hr;refine wp_block (Code.wp_mono ?_ (hx a1 w1 σ1 hr));rintro e a' w' ⟨s',σ',h1,hp⟩;cases e with
   |normal=>exact⟨s',σ',h1,hp⟩
   |exit id' =>
    have hk:(bif Nat.beq id' id then kn s' else ke id' s')=some r:=hp;simp only[Exit.inBlock];by_cases he:id' =id
    ·subst he;rw[if_pos rfl];simp only[Nat.beq_refl,cond_true]at hk;exact⟨s',σ',h1,hk⟩
    ·rw[if_neg he];rw[qhs he]at hk;exact⟨s',σ',h1,hk⟩
   |ret=>exact⟨s',σ',h1,hp⟩
   |_=>exact hp.elim
 |exit id=>
  intro a s kn ke kr hs h;unfold den at h;split at h
  ·rename_i n hn;exact summ hs hn h
  ·exact fun a w σ hr=>wp_exit ⟨s,σ,hr,h⟩
 |ret=>
  intro a s kn ke kr hs h;unfold den at h;split at h
  ·rename_i n hn;exact summ hs hn h
  ·simp only[]at h;split at h
   ·rename_i x hx;exact fun a w σ hr=>wp_ret ⟨s,σ,hr,x,hx,h⟩
   ·cases h
 |loop x ih=>
  intro a s kn ke kr hs h;unfold den at h;split at h
  ·rename_i n hn;exact summ hs hn h
  ·rename_i hn;cases hu:a.unr with
   |none=>rw[hu]at h;cases h
   |some p=>
    obtain⟨n,b⟩:=p;rw[hu]at h;have hsum:ro (.loop x) a=ro x b:=by conv=>lhs;unfold ro;simp only[hn,hu]
    rw[hsum]at hs;refine CW.loop (ι:=Nat×TS) (fun p=>p.2) (fun p=>jr7 (fun s k=>den X x b s k ke kr) p.1 p.2=some r) (fun p=>p.1) ?_ (n,s) h;rintro⟨m,s1⟩ hm a1 w1 σ1 hr;cases m with
    |zero=>cases hm
    |succ m=>
     have hx:=ih b s1 (jr7 (fun s k=>den X x b s k ke kr) m) ke kr hs hm a1 w1 σ1 hr;refine Code.wp_mono ?_ hx;rintro e a' w' ⟨s',σ',h1,h2⟩;cases e with
     |normal=>exact⟨(m,s'),σ',h2,Nat.lt_succ_self m,h1⟩
     |exit id=>exact⟨s',σ',h1,h2⟩
     |ret=>exact⟨s',σ',h1,h2⟩
     |_=>exact h2.elim
 |_=>
  intro a s kn ke kr hs h;unfold den at h;split at h
  ·rename_i n hn;exact summ hs hn h
  ·cases h
 where
 summ {c:Code} {a:Ann} {s:TS} {kn:TS→Option R} {ke:Nat→TS→Option R} {kr:Rf→Option R} {n:Nat} (hs:∀p∈ro c a,ax P X p.1 p.2) (hn:a.sum=some n)
   (h:(match X.Λ n with|some σ=>(match σ.dec s with|some x=>bnd (σ.m x) (fun o=>σ.cont x o kn ke kr)|none=>none)|none=>none)=some r):CW P U w0 σ0 K X.N c (jio X kn ke kr r) s:=by
  have hm:(n,c)∈ro c a:=by
   unfold ro;simp[hn]
  split at h
  ·rename_i σ hσ;split at h
   ·rename_i x hx;obtain⟨o,ho,hc⟩:=qub h;exact hs (n,c) hm σ hσ U w0 σ0 K hK R s x o kn ke kr r hx ho hc
   ·cases h
  ·cases h
end
end Go.K
namespace Go.K
open Go.M Go.RowKit
mutual
inductive Sh where
 | d (fr : Bool) (t : Ty)
 | rp (fr : Bool) (t : Ty)
 | own (i : Nat)
 | kid (i f : Nat)
 | ptr (i : Nat)
 | mp (i : Nat)
 | dm (fr : Bool) (kt vt : Ty)
 | it
 | e
 | fn (f : FuncId) (l : ShL)
 | agg (l : ShL)
 | nl (b : Bool) (s : Sh)
 | nf (s : Sh)
inductive ShL where
 | nil
 | cons (s : Sh) (l : ShL)
end
inductive Hs where
 | arr (ty : TypeId) (md : Md) (its : List TypeId) (t : Ty)
 | cs (ty : TypeId) (sz n : Nat) (l : ShL)
 | mp (kt vt : Ty)
 | mo (kt u : Ty) (ety : TypeId)
mutual
def Sh.den:Sh→Type
 | .d _ t=>t.den
 | .rp _ t=>t.den
 | .own _=>Unit
 | .kid _ _=>Nat
 | .ptr _=>Unit
 | .mp _=>Unit
 | .dm _ kt vt=>List (kt.den×vt.den)
 | .it=>Nat
 | .e=>Unit
 | .fn _ l=>l.den
 | .agg l=>l.den
 | .nl _ s=>s.den
 | .nf s=>Option Bool×s.den
def ShL.den:ShL→Type
 | .nil=>Unit
 | .cons s l=>s.den×l.den
end
def Hs.den:Hs→Type
 | .arr _ _ _ t=>List t.den
 | .cs _ _ _ l=>l.den
 | .mp kt vt=>List (kt.den×vt.den)
 | .mo kt u _=>List (kt.den×List u.den)
def q60:List (Nat×Sh)→Type
 |[]=>Unit
 |p::l=>p.2.den×q60 l
def xt:List Hs→Type
 |[]=>Unit
 |p::l=>p.den×xt l
def q7e(fr:Bool):(t:Ty)→t.den→TV
 | .int k,n=> .int k n
 | .bool,b=> .bool b
 | .str,s=> .val (.string s)
 | .slice t,xs=> .sl fr t xs
 | .struct l,x=> .agg (l.cells fr x)
 | .tree l m,x=> .agg (Ty.cells fr (.tree l m) x)
mutual
def Sh.enc:(s:Sh)→s.den→TV
 | .d fr t,x=>q7e fr t x
 | .rp fr t,x=> .rptr fr t [x] (.ofNat 0) 0
 | .own i,_=> .own (.o i)
 | .kid i f,x=> .own (.r i x f)
 | .ptr i,_=> .ptr (.o i) (.ofNat 0) 0
 | .mp i,_=> .mp (.o i)
 | .dm fr kt vt,es=> .dm fr kt vt es
 | .it,r=> .val (.pointer (some ⟨r,0,none⟩))
 | .e,_=> .val (.slice none 0 0)
 | .fn f l,x=> .fn f (l.enc x)
 | .agg l,x=> .agg (l.enc x)
 | .nl b s,x=> .nl (some b) (s.enc x)
 | .nf s,x=> .nl x.1 (s.enc x.2)
def ShL.enc:(l:ShL)→l.den→List TV
 | .nil,_=>[]
 | .cons s l,x=>s.enc x.1::l.enc x.2
end
def ShL.len:ShL→Nat
 | .nil=>0
 | .cons _ l=>l.len+1
theorem ShL.enc_len:∀(l:ShL) (x:l.den),(l.enc x).length=l.len
 | .nil,_=>rfl
 | .cons s l,x=>by simp[ShL.enc,ShL.len,ShL.enc_len l x.2]
def Hs.enc:(h:Hs)→h.den→TOb
 | .arr ty md its t,xs=> .arr ty md its t xs
 | .cs ty sz n l,x=> .cs ty sz n (l.enc x)
 | .mp kt vt,es=> .mp kt vt es
 | .mo kt u ety,es=> .mo kt u ety es none
def qhn:(l:List (Nat×Sh))→q60 l→List (Nat×TV)
 |[],_=>[]
 |p::l,x=>(p.1,p.2.enc x.1)::qhn l x.2
def ey:(l:List Hs)→xt l→List TOb
 |[],_=>[]
 |p::l,x=>p.enc x.1::ey l x.2
structure Shp where
 sl : List (Nat × Sh)
 hp : List Hs
def Shp.den(h:Shp):Type:=q60 h.sl×xt h.hp
def Shp.enc(h:Shp)(x:h.den):TS:=⟨qhn h.sl x.1,ey h.hp x.2⟩
abbrev Rho:=List (Option Nat)
def na(tg:Nat):Rho→Bool
 |[]=>false
 |some t::l=>Nat.beq t tg||na tg l
 |none::l=>na tg l
def qpg:Rho→Bool
 |[]=>true
 |some t::l=> !na t l&&qpg l
 |none::l=>qpg l
def qx5(fr fr' :Bool):Bool:= !fr||fr'
def je5(H:List TOb):TG→Option (Bool×(v:Ty)×List v.den)
 | .o t=>
  match H[t]? with
  |some (.arr _ md _ u xs)=>
   match md with
   | .fz fr=>some (fr||u.flat,⟨u,xs⟩)
   | .own=>some (true,⟨u,xs⟩)
   |_=>none
  |_=>none
 | .r t i f=>
  match H[t]? with
  |some (.arr _ .own _ u xs)=>
   match eb u (xs.getD i u.dft) f with
   |some y=>some (true,y)
   |none=>none
  |_=>none
def qme(bo:Bool)(ρ:Rho)(H:List TOb):TV→TV
 | .own T=>
  match je5 H T with
  |some (fr,⟨u,xs⟩)=>bif !na T.ob ρ then .sl (fr&& !bo) u xs else .any
  |none=> .any
 | .ownS T off n=>
  match je5 H T with
  |some (fr,⟨u,xs⟩)=>bif !na T.ob ρ then .sl (fr&& !bo) u ((xs.drop off).take n)else .any
  |none=> .any
 | .int k n=> .int k n
 | .bool b=> .bool b
 | .val u=> .val u
 | .e0=> .e0
 | .sl fr t xs=> .sl fr t xs
 |_=> .any
def qi6(bo:Bool)(ρ:Rho)(H:List TOb):List TV→List TV
 |[]=>[]
 |v::l=>qme bo ρ H v::qi6 bo ρ H l
def qhv(fr:Bool)(t:Ty)(cs:List TV):Option t.den:=
 match t.pack1 cs with
 |some (x,g)=>bif qx5 fr g then some x else none
 |none=>none
def jvj(H:List TOb):TV→Option (Nat×Nat×Nat×List TV)
 | .own (.o tg)=>match H[tg]? with|some (.cs _ sz n cs)=>some (tg,sz,n,cs)|_=>none
 |_=>none
def jvo(fr:Bool)(t:Ty)(n:Nat)(cs:List TV):Option (List t.den):=
 match t.packN n cs with
 |some (xs,g)=>bif qx5 fr g then some xs else none
 |none=>none
def jzh(bo:Bool)(ρ:Rho)(H:List TOb)(fr:Bool):(t:Ty)→TV→Option t.den
 | .struct l,v=>match v with| .agg cs=>qhv fr (.struct l) (qi6 bo ρ H cs)|_=>none
 | .tree l m,v=>match v with| .agg cs=>qhv fr (.tree l m) (qi6 bo ρ H cs)|_=>none
 | .int k,v=>qhv fr (.int k) [v]
 | .bool,v=>qhv fr .bool [v]
 | .str,v=>qhv fr .str [v]
 | .slice t,v=>
  match jvj H v with
  |some (tg,sz,n,cs)=>bif !na tg ρ&&Nat.beq sz t.sz&&qx5 fr (!bo)then jvo fr t n (qi6 bo ρ H cs)else none
  |none=>qhv fr (.slice t) [qme bo ρ H v]
def jze{t u:Ty}(h:t=u)(x:t.den):u.den:=h▸x
def jnx(bo:Bool)(ρ:Rho)(H:List TOb)(fr:Bool)(t:Ty):TV→Option t.den
 | .rptr fr' t' [x] (.ofNat 0) 0=>match t'.eq? t with|some ⟨h⟩=>bif qx5 fr fr' then some (jze h x)else none|none=>none
 | .ptr (.o tg) (.ofNat 0) 0=>
  match H[tg]? with
  |some (.cs _ sz n cs)=>bif !na tg ρ&&Nat.beq n 1&&Nat.beq sz t.sz&&qx5 fr (!bo)then qhv fr t (qi6 bo ρ H cs)else none
  |_=>none
 |_=>none
def jiy{kt vt kt' vt' :Ty}(h1:kt' =kt)(h2:vt' =vt)(es:List (kt'.den×vt'.den)):List (kt.den×vt.den):=h1▸h2▸es
def jzf{kt u kt' u' :Ty}(h1:kt' =kt)(h2:u' =u)(es:List (kt'.den×List u'.den)):List (kt.den×List u.den):=h1▸h2▸es
def jvn(bo:Bool)(ρ:Rho)(H:List TOb)(fr:Bool)(kt vt:Ty)(v:TV):Option (List (kt.den×vt.den)):=
 match v with
 | .dm fr' kt' vt' es=>
  match kt'.eq? kt,vt'.eq? vt with
  |some ⟨h1⟩,some ⟨h2⟩=>bif qx5 fr fr' then some (jiy h1 h2 es)else none
  |_,_=>none
 | .val (.map none)=>some []
 | .mp (.o tg)=>
  match H[tg]? with
  |some (.mo kt' u ety es none)=>
   match kt'.eq? kt,(Ty.slice u).eq? vt with
   |some ⟨h1⟩,some ⟨h2⟩=>bif !na tg ρ&&qx5 fr (!bo)then some (jiy (vt' := .slice u) h1 h2 es)else none
   |_,_=>none
  |some (.mp kt' vt' es)=>
   match kt'.eq? kt,vt'.eq? vt with
   |some ⟨h1⟩,some ⟨h2⟩=>bif !na tg ρ&&qx5 fr (!bo)&&vt'.one then some (jiy h1 h2 es)else none
   |_,_=>none
  |_=>none
 |_=>none
mutual
def Sh.dec(bo:Bool)(ρ:Rho)(H:List TOb):(s:Sh)→TV→Option s.den
 | .d fr t,v=>jzh bo ρ H fr t v.st
 | .rp fr t,v=>jnx bo ρ H fr t v.st
 | .own i,v=>
  match v.st with
  | .own (.o tg)=>match ρ[i]? with|some (some t)=>bif Nat.beq t tg then some ()else none|_=>none
  | .val (.slice none 0 0)=>match ρ[i]? with|some none=>some ()|_=>none
  | .e0=>match ρ[i]? with|some none=>some ()|_=>none
  |_=>none
 | .kid i f,v=>
  match v.st with
  | .own (.r tg j f')=>match ρ[i]? with|some (some t)=>bif Nat.beq t tg&&Nat.beq f' f then some j else none|_=>none
  |_=>none
 | .ptr i,v=>
  match v.st with
  | .ptr (.o tg) (.ofNat 0) 0=>match ρ[i]? with|some (some t)=>bif Nat.beq t tg then some ()else none|_=>none
  |_=>none
 | .mp i,v=>
  match v.st with
  | .mp (.o tg)=>match ρ[i]? with|some (some t)=>bif Nat.beq t tg then some ()else none|_=>none
  |_=>none
 | .dm fr kt vt,v=>jvn bo ρ H fr kt vt v.st
 | .it,v=>match v.st with| .val (.pointer (some ⟨r,0,none⟩))=>some r|_=>none
 | .e,v=>match v.st with| .val (.slice none 0 0)=>some ()|_=>none
 | .fn f l,v=>match v.st with| .fn f' cs=>bif Nat.beq f' f then l.dec bo ρ H cs else none|_=>none
 | .agg l,v=>match v.st with| .agg cs=>l.dec bo ρ H cs|_=>none
 | .nl b s,v=>bif v.isN b then s.dec bo ρ H v.st else none
 | .nf s,v=>match s.dec bo ρ H v.st with|some x=>some (v.nlB,x)|none=>none
def ShL.dec(bo:Bool)(ρ:Rho)(H:List TOb):(l:ShL)→List TV→Option l.den
 | .nil,cs=>match cs with|[]=>some ()|_=>none
 | .cons s l,cs=>
  match cs with
  |v::r=>match s.dec bo ρ H v with|some x=>(match l.dec bo ρ H r with|some y=>some (x,y)|none=>none)|none=>none
  |[]=>none
end
def je7:Md→Md→Bool
 | .fz fr, .fz fr' =>qx5 fr fr'
 | .own, .own=>true
 |_,_=>false
def jlq:List TypeId→List TypeId→Bool
 |[],[]=>true
 |a::l,b::m=>Nat.beq a b&&jlq l m
 |_,_=>false
def jss:Md→Bool
 | .fz _=>true
 | .own=>true
 |_=>false
def Hs.dec(bo:Bool)(ρ:Rho)(H:List TOb)(o:Option Nat):(h:Hs)→Option h.den
 | .arr ty md its t=>
  match o with
  |none=>bif jss md then some ([]:List t.den)else none
  |some tg=>
   match H[tg]? with
   |some (.arr ty' md' its' t' xs)=>match t'.eq? t with|some ⟨h⟩=>bif Nat.beq ty' ty&&je7 md md' &&jlq its' its then some (y7 h xs)else none|none=>none
   |_=>none
 | .cs ty sz n l=>
  match o with
  |none=>none
  |some tg=>
   match H[tg]? with
   |some (.cs ty' sz' n' ws)=>bif Nat.beq ty' ty&&Nat.beq sz' sz&&Nat.beq n' n&&Nat.blt 0 n then l.dec bo ρ H ws else none
   |_=>none
 | .mp kt vt=>
  match o with
  |none=>none
  |some tg=>
   match H[tg]? with
   |some (.mp kt' vt' es)=>
    match kt'.eq? kt,vt'.eq? vt with
    |some ⟨h1⟩,some ⟨h2⟩=>some (jiy h1 h2 es)
    |_,_=>none
   |_=>none
 | .mo kt u ety=>
  match o with
  |none=>none
  |some tg=>
   match H[tg]? with
   |some (.mo kt' u' ety' es none)=>
    match kt'.eq? kt,u'.eq? u with
    |some ⟨h1⟩,some ⟨h2⟩=>bif Nat.beq ety' ety then some (jzf h1 h2 es)else none
    |_,_=>none
   |_=>none
def jj8(bo:Bool)(ρ:Rho)(s:TS):(l:List (Nat×Sh))→Option (q60 l)
 |[]=>some ()
 |p::l=>match p.2.dec bo ρ s.H (bt s.S p.1)with|some x=>(match jj8 bo ρ s l with|some y=>some (x,y)|none=>none)|none=>none
def qmd(bo:Bool)(ρ:Rho)(H:List TOb):Rho→(l:List Hs)→Option (xt l)
 |[],[]=>some ()
 |o::os,p::l=>match p.dec bo ρ H o with|some x=>(match qmd bo ρ H os l with|some y=>some (x,y)|none=>none)|none=>none
 |_,_=>none
mutual
def Sh.fnd:Sh→TV→Rho→Rho
 | .own i,v,ρ=>match v.st with| .own (.o tg)=>ρ.set i (some tg)|_=>ρ
 | .kid i _,v,ρ=>match v.st with| .own (.r tg _ _)=>ρ.set i (some tg)|_=>ρ
 | .ptr i,v,ρ=>match v.st with| .ptr (.o tg) _ _=>ρ.set i (some tg)|_=>ρ
 | .mp i,v,ρ=>match v.st with| .mp (.o tg)=>ρ.set i (some tg)|_=>ρ
 | .fn _ l,v,ρ=>match v.st with| .fn _ cs=>l.fnd cs ρ|_=>ρ
 | .agg l,v,ρ=>match v.st with| .agg cs=>l.fnd cs ρ|_=>ρ
 | .nl _ s,v,ρ=>s.fnd v.st ρ
 | .nf s,v,ρ=>s.fnd v.st ρ
 |_,_,ρ=>ρ
def ShL.fnd:ShL→List TV→Rho→Rho
 | .cons s l,v::r,ρ=>l.fnd r (s.fnd v ρ)
 |_,_,ρ=>ρ
end
def js1(S:List (Nat×TV)):List (Nat×Sh)→Rho→Rho
 |[],ρ=>ρ
 |p::l,ρ=>js1 S l (p.2.fnd (bt S p.1) ρ)
def jjb(H:List TOb):Nat→List Hs→Rho→Rho
 |_,[],ρ=>ρ
 |i, .cs _ _ _ l::hs,ρ=>jjb H (i+1) hs (match ρ[i]? with|some (some tg)=>(match H[tg]? with|some (.cs _ _ _ cs)=>l.fnd cs ρ|_=>ρ)|_=>ρ)
 |i,_::hs,ρ=>jjb H (i+1) hs ρ
def jsx:Nat→List Bool→Rho→Rho
 |_,[],ρ=>ρ
 |t,k::kp,ρ=>jsx (t+1) kp (bif k then ρ.set t (some t)else ρ)
def jlr:Nat→List Bool→Rho→Bool
 |_,[],_=>true
 |t,true::kp,ρ=>(match ρ[t]? with|some (some t')=>Nat.beq t' t|_=>false)&&jlr (t+1) kp ρ
 |t,false::kp,ρ=>jlr (t+1) kp ρ
def jvl(N:Nat)(kp:List Bool)(p:Nat)(s:TS):TS:=
 match bt s.S p with
 | .ownS (.o t) off n=>
  match s.H[t]? with
  |some (.arr ty (.fz fr) its u xs)=>bif !bw kp t&&Nat.blt p N&&Nat.blt 0 u.sz then⟨(p, .own (.o t))::sbS (bh t) s.S,(cz (bh t) s.H).set t (.arr ty (.fz fr) its u ((xs.drop off).take n))⟩else s
  |_=>s
 |_=>s
def jnw(N:Nat)(kp:List Bool):List (Nat×Sh)→TS→TS
 |[],s=>s
 |(p, .own _)::l,s=>jnw N kp l (jvl N kp p s)
 |_::l,s=>jnw N kp l s
def jvk(kp:List Bool)(tb j:Nat)(s:TS):TS:=
 match s.H[tb]? with
 |some (.cs ty sz n cs)=>
  match cs.getD j .any with
  | .ownS (.o t) off m=>
   match s.H[t]? with
   |some (.arr ty2 (.fz fr) its u xs)=>
    bif !bw kp t&&Nat.beq n 1&&Nat.blt j sz&& !Nat.beq t tb&&Nat.blt 0 u.sz then⟨sbS (bh t) s.S,((cz (bh t) s.H).set t (.arr ty2 (.fz fr) its u ((xs.drop off).take m))).set tb (.cs ty sz n ((TV.sbL (bh t) cs).set j (.own (.o t))))⟩else s
   |_=>s
  |_=>s
 |_=>s
def jon:TV→Bool
 | .ownS _ _ _=>true
 |_=>false
def ji2(kp:List Bool)(tb:Nat):Nat→List TV→TS→TS
 |_,[],s=>s
 |j,v::l,s=>ji2 kp tb (j+1) l (bif jon v then jvk kp tb j s else s)
def ji3(kp:List Bool):Nat→List TOb→TS→TS
 |_,[],s=>s
 |tb, .cs _ _ _ cs::l,s=>ji3 kp (tb+1) l (ji2 kp tb 0 cs s)
 |tb,_::l,s=>ji3 kp (tb+1) l s
def jog:List Hs→Bool
 |[]=>false
 | .cs _ _ _ _::_=>true
 |_::l=>jog l
def jk5(N:Nat)(kp:List Bool)(h:Shp)(s:TS):TS:=bif jog h.hp then ji3 kp 0 s.H (jnw N kp h.sl s)else jnw N kp h.sl s
def Shp.rho(kp:List Bool)(h:Shp)(s:TS):Rho:=jjb s.H 0 h.hp (js1 s.S h.sl (jsx 0 kp (List.replicate h.hp.length none)))
def Shp.decR(bo:Bool)(h:Shp)(s:TS)(ρ:Rho):Option h.den:=
 bif qpg ρ then
  match jj8 bo ρ s h.sl with
  |some x=>(match qmd bo ρ s.H ρ h.hp with|some y=>some (x,y)|none=>none)
  |none=>none
 else none
def Shp.dec(N:Nat)(kp:List Bool)(h:Shp)(s:TS):Option h.den:=
 bif jlr 0 kp (h.rho kp (jk5 N kp h s))then h.decR false (jk5 N kp h s) (h.rho kp (jk5 N kp h s))else none
end Go.K
namespace Go.K
open Go.M Go.RowKit
variable {F : Nat → Prop}
theorem qlo{tg:Nat}:∀{ρ:Rho},na tg ρ=true↔some tg∈ρ
 |[]=>by simp[na]
 |some t::l=>by
  simp only[na,Bool.or_eq_true,List.mem_cons,Option.some.injEq,qlo (ρ:=l)];exact⟨fun h=>h.imp (fun e=>(a8 e).symm) id,fun h=>h.imp (fun e=>by rw[e];exact Nat.beq_refl _) id⟩
 |none::l=>by
  simp only[na,List.mem_cons,reduceCtorEq,false_or,qlo (ρ:=l)]
theorem qfm{tg:Nat}{ρ:Rho}:na tg ρ=false↔some tg∉ρ:=by
 rw[←qlo (ρ:=ρ)];cases na tg ρ<;>simp
theorem qyp:∀{ρ:Rho},qpg ρ=true→∀{i j tg:Nat},ρ[i]? =some (some tg)→ρ[j]? =some (some tg)→i=j
 |[],_,i,j,tg,h,_=>by simp at h
 |some t::l,hok,i,j,tg,h1,h2=>by
  simp only[qpg,Bool.and_eq_true,Bool.not_eq_true']at hok;cases i with
  |zero=>
   cases j with
   |zero=>rfl
   |succ j=>
    simp at h1;subst h1;exact absurd (List.mem_of_getElem? (show l[j]? =some (some t) by simpa using h2)) (qfm.1 hok.1)
  |succ i=>
   cases j with
   |zero=>
    simp at h2;subst h2;exact absurd (List.mem_of_getElem? (show l[i]? =some (some t) by simpa using h1)) (qfm.1 hok.1)
   |succ j=>rw[qyp hok.2 (i:=i) (j:=j) (by simpa using h1) (by simpa using h2)]
 |none::l,hok,i,j,tg,h1,h2=>by
  cases i with
  |zero=>simp at h1
  |succ i=>
   cases j with
   |zero=>simp at h2
   |succ j=>rw[qyp (ρ:=l) hok (i:=i) (j:=j) (by simpa using h1) (by simpa using h2)]
def mu(ρ:Rho)(σ:Pl):Pl:=fun T=>match ρ[T.ob]? with|some (some tg)=>σ (T.at tg)|_=>none
theorem qbg{ρ:Rho}{σ:Pl}{T:TG}{p:Nat×Nat}(h:mu ρ σ T=some p):∃tg,ρ[T.ob]? =some (some tg)∧σ (T.at tg)=some p:=by
 unfold mu at h;split at h
 ·rename_i tg e;exact⟨tg,e,h⟩
 ·cases h
theorem zj{ρ:Rho}{σ:Pl}{T:TG}{tg:Nat}(h:ρ[T.ob]? =some (some tg)):mu ρ σ T=σ (T.at tg):=by simp only[mu,h]
section
variable {U U' : Nat → Prop} {w0 : World} {σ0 : Pl} {K : Nat → Bool} {H Hv H' : List TOb} {w : World} {σ : Pl} {ρ : Rho} {bo : Bool}
structure Cv (U U' : Nat → Prop) (w0 : World) (σ0 : Pl) (K : Nat → Bool) (H Hv H' : List TOb) (w : World) (σ : Pl) (ρ : Rho) (bo : Bool) : Prop where
 hr : HR U w0 σ0 K (vw H) w σ
 le : HLe (fun _ => False) Hv H
 ok : qpg ρ = true
 u : ∀ b, U' b → U b ∨ ed σ b
 nb : bo = false → ∀ b, U' b → U b
 dim : ∀ i tg, ρ[i]? = some (some tg) → ah (vw H') (.o i) = ah (vw H) (.o tg)
 nil : ∀ i, ρ[i]? = some none → ∃ sz, ah (vw H') (.o i) = some (0, sz)
 kdim : ∀ i tg, ρ[i]? = some (some tg) → ∀ j f q, ah (vw H) (.r tg j f) = some q → ah (vw H') (.r i j f) = some q
theorem Cv.x(_h:Cv U U' w0 σ0 K H Hv H' w σ ρ bo){b:Nat}(hb:ed (mu ρ σ) b):ed σ b:=by
 obtain⟨T,o,hT⟩:=hb;obtain⟨tg,_,h2⟩:=qbg hT;exact⟨_,o,h2⟩
theorem Cv.low(h:Cv U U' w0 σ0 K H Hv H' w σ ρ bo)(fr:Bool):Low w (YY (ed σ) U fr) w (YY (ed (mu ρ σ)) U' fr):=by
 refine⟨Nat.le_refl _,fun b _ hY hY' =>hY ?_,fun _ _ _=>rfl⟩;rcases hY' with e|⟨e1,e2⟩
 ·exact .inl (h.x e)
 ·rcases h.u b e2 with e|e
  ·exact .inr ⟨e1,e⟩
  ·exact .inl e
theorem Cv.out(h:Cv U U' w0 σ0 K H Hv H' w σ ρ bo){T:TG}(hT:na T.ob ρ=false){g o:Nat}(hσ:σ T=some (g,o)){fr:Bool}(hf:fr=true→bo=false):¬YY (ed (mu ρ σ)) U' fr g:=by
 rintro(⟨T',o',hT'⟩|⟨e1,e2⟩)
 ·obtain⟨tg,h1,h2⟩:=qbg hT';have:=h.hr.inj _ _ _ _ _ hσ h2;rw[this,TG.at_ob]at hT;exact qfm.1 hT (List.mem_of_getElem? h1)
 ·exact(h.hr.own _ _ _ hσ).1 (h.nb (hf e1) g e2)
theorem Cv.row(h:Cv U U' w0 σ0 K H Hv H' w σ ρ bo){T:TG}{fr:Bool}{u:Ty}{xs:List u.den}(hl:je5 Hv T=some (fr,⟨u,xs⟩))(hT:na T.ob ρ=false):
  (∀q,ah (vw H) T=some q→q=(xs.length,u.sz))∧∀g o,σ T=some (g,o)→qko w (YY (ed (mu ρ σ)) U' (fr&& !bo)) u xs g o:=by
 have hfb:(fr&& !bo)=true→bo=false:=fun e=>by simp only[Bool.and_eq_true,Bool.not_eq_true']at e;exact e.2
 have hlow:∀fr0,((fr&& !bo)=true→fr0=true)→Low w (YY (ed σ) U fr0) w (YY (ed (mu ρ σ)) U' (fr&& !bo)):=by
  intro fr0 h0;refine⟨Nat.le_refl _,fun b hb hY hY' =>(h.low (fr&& !bo)).ex b hb (fun hY2=>hY ?_) hY',fun _ _ _=>rfl⟩;rcases hY2 with e|⟨e1,e2⟩
  ·exact .inl e
  ·exact .inr ⟨h0 e1,e2⟩
 cases T with
 |o t=>
  simp only[je5]at hl;split at hl
  ·rename_i ty md its u' xs' hov;have ho:=h.le.ob hov;split at hl
   ·rename_i fr';simp only[Option.some.injEq,Prod.mk.injEq,Sigma.mk.injEq]at hl;obtain⟨rfl,rfl,hx⟩:=hl;have hx:=eq_of_heq hx;subst hx;refine⟨fun q hq=>by simp only[ah,a9 ho,Option.map_some,Option.some.injEq]at hq;exact hq.symm,fun g o hσ=> ?_⟩;have hob:=h.hr.obj _ _ (a9 ho);rw[hσ]at hob;refine OR.row hob (h.hr.lt hσ) (h.out hT hσ hfb) rfl rfl fun j f hj hf y hV=> ?_
    simp only[l6]at hV;have hC:=(Ty.C_iff (gr U (vw H) w σ) fr' u' _ f y hf).2 hV;by_cases hfl:u'.flat=true
    ·exact Ty.C_flat u' _ f y hfl hC
    ·refine Ty.C_low (hlow fr' (fun e=> ?_)) u' _ f y hC;simp only[Bool.and_eq_true,Bool.or_eq_true]at e;exact e.1.resolve_right hfl
   ·simp only[Option.some.injEq,Prod.mk.injEq,Sigma.mk.injEq]at hl;obtain⟨rfl,rfl,hx⟩:=hl;have hx:=eq_of_heq hx;subst hx;refine⟨fun q hq=>by simp only[ah,a9 ho,Option.map_some,Option.some.injEq]at hq;exact hq.symm,fun g o hσ=> ?_⟩;have hob:=h.hr.obj _ _ (a9 ho);rw[hσ]at hob;refine OR.row hob (h.hr.lt hσ) (h.out hT hσ hfb) rfl rfl fun j f hj hf y hV=> ?_
    exact joq h.hr ho (hlow true fun _=>rfl) (fun i f g o hk=>h.out (T:= .r t i f) hT hk hfb) hj hf hV
   ·cases hl
  ·cases hl
 |r t i f=>
  simp only[je5]at hl;split at hl
  ·rename_i ty its u' xs' hov;have ho:=h.le.ob hov;split at hl
   ·rename_i y hin;simp only[Option.some.injEq,Prod.mk.injEq]at hl;obtain⟨rfl,rfl⟩:=hl;have hinfo:∀q,ah (vw H) (.r t i f)=some q→i<xs'.length∧q=(xs.length,u.sz):=by
     intro q hq;simp only[ah,ld ho]at hq;split at hq
     ·rename_i hc;rw[hin]at hq;simp only[kv,Option.map_some,Option.some.injEq]at hq;exact⟨hc.2,hq.symm⟩
     ·cases hq
    refine⟨fun q hq=>(hinfo q hq).2,fun g o hσ=> ?_⟩;obtain⟨v,hv⟩:=h.hr.dom _ _ hσ;have hi:=(hinfo _ (by simp only[ah,hv];rfl)).1;exact q2q h.hr ho rfl (hlow true fun _=>rfl) hi hin hσ (h.out (T:= .r t i f) hT hσ hfb)
   ·cases hl
  ·cases hl
theorem Cv.lend(h:Cv U U' w0 σ0 K H Hv H' w σ ρ bo):∀(A:TV) (v:Value),VR (gr U (vw H) w σ) A v→VR (gr U' (vw H') w (mu ρ σ)) (qme bo ρ Hv A) v
 | .own T,v,hv=>by
  simp only[qme];split
  ·rename_i fr u xs hl;cases hb:na T.ob ρ with
   |true=>simp[hb,VR]
   |false=>
    obtain⟨h1,h2⟩:=h.row hl hb;obtain⟨n,sz,hI,hs⟩:=hv;have:=h1 _ hI;simp only[Prod.mk.injEq]at this;obtain⟨rfl,rfl⟩:=this;have h3:=SlR.fz (off:=0) (n:=xs.length) (by omega) h2 hs;simp only[List.drop_zero,List.take_length]at h3;exact h3
  ·trivial
 | .ownS T off m,v,hv=>by
  simp only[qme];split
  ·rename_i fr u xs hl;cases hb:na T.ob ρ with
   |true=>simp[hb,VR]
   |false=>
    obtain⟨h1,h2⟩:=h.row hl hb;obtain⟨n,sz,hI,hle,hs⟩:=hv;have:=h1 _ hI;simp only[Prod.mk.injEq]at this;obtain⟨rfl,rfl⟩:=this;exact SlR.fz hle h2 hs
  ·trivial
 | .int k n,v,hv=>hv
 | .bool b,v,hv=>hv
 | .val u,v,hv=>hv
 | .e0,v,hv=>hv
 | .sl fr t xs,v,hv=>Ty.C_low (h.low fr) (.slice t) xs 0 v hv
 | .any,_,_=>trivial
 | .rptr _ _ _ _ _,_,_=>trivial
 | .ptr _ _ _,_,_=>trivial
 | .mp _,_,_=>trivial
 | .dm _ _ _ _,_,_=>trivial
 | .fn _ _,_,_=>trivial
 | .agg _,_,_=>trivial
 | .tup _,_,_=>trivial
 | .cond _ _,_,_=>trivial
 | .nl _ _,_,_=>trivial
theorem qu0(bo:Bool)(ρ:Rho)(H:List TOb):∀(cs:List TV) (j:Nat),(qi6 bo ρ H cs).getD j .any=qme bo ρ H (cs.getD j .any)
 |[],j=>by simp[qi6,qme]
 |v::l,0=>by simp[qi6]
 |v::l,j+1=>by simpa[qi6]using qu0 bo ρ H l j
theorem q9t(bo:Bool)(ρ:Rho)(H:List TOb):∀(cs:List TV),(qi6 bo ρ H cs).length=cs.length
 |[]=>rfl
 |v::l=>by simp[qi6,q9t bo ρ H l]
theorem qgy{fr g:Bool}(h:qx5 fr g=true):fr=true→g=true:=by
 intro e;subst e;simpa[qx5]using h
theorem qqx{G:Gr}{fr:Bool}{t:Ty}{cs:List TV}{x:t.den}(h:qhv fr t cs=some x):cs.length=t.sz∧∀f,f<t.sz→∀y,VR G (cs.getD f .any) y→VR G ((t.cells fr x).getD f .any) y:=by
 unfold qhv at h;split at h
 ·rename_i x' g hp;obtain⟨hb,h⟩:=ag h;cases h;obtain⟨h1,h2⟩:=Ty.pack1_ok (G:=G) hp;exact⟨h1,fun f hf y hy=>(Ty.C_iff G fr t x f y hf).1 (Ty.C_fr (qgy hb) (h2 f hf y hy))⟩
 ·cases h
theorem ji5(h:Cv U U' w0 σ0 K H Hv H' w σ ρ bo){fr:Bool}{t:Ty}{cs:List TV}{x:t.den}(hd:qhv fr t (qi6 bo ρ Hv cs)=some x){v:Value}(hv:VR (gr U (vw H) w σ) (.agg cs) v):VR (gr U' (vw H') w (mu ρ σ)) (.agg (t.cells fr x)) v:=by
 obtain⟨h1,h2⟩:=qqx (G:=gr U' (vw H') w (mu ρ σ)) hd;obtain⟨vs,rfl,hvs,h3⟩:=hv;rw[q9t]at h1;refine⟨vs,rfl,iw.of ?_ (fun j B y hB hy=> ?_),h3⟩
 ·rw[hvs.len,h1];exact(Ty.cells_len fr t x).symm
 ·have hj:j<t.sz:=by
   have:=(List.getElem?_eq_some_iff.1 hB).1;exact Nat.lt_of_lt_of_eq this (Ty.cells_len fr t x)
  obtain⟨y',hy',hV⟩:=hvs.getD j (by omega);rw[hy]at hy';cases hy';have h4:=h2 j hj y (by rw[qu0];exact h.lend _ _ hV);have e:(t.cells fr x).getD j .any=B:=by rw[List.getD_eq_getElem?_getD,hB];rfl
  rw[e]at h4;exact h4
theorem jq0(h:Cv U U' w0 σ0 K H Hv H' w σ ρ bo){fr:Bool}:∀{t:Ty} {A:TV} {x:t.den},jzh bo ρ Hv fr t A=some x→∀{v:Value},VR (gr U (vw H) w σ) A v→VR (gr U' (vw H') w (mu ρ σ)) (q7e fr t x) v
 | .struct l,A,x,hd,v,hv=>by
  cases A
  case agg cs=>exact ji5 (t:= .struct l) h hd hv
  all_goals cases hd
 | .tree l m,A,x,hd,v,hv=>by
  cases A
  case agg cs=>exact ji5 (t:= .tree l m) h hd hv
  all_goals cases hd
 | .int k,A,x,hd,v,hv=>by
  have hd:qhv fr (.int k) [A]=some x:=hd;have hd' :qhv fr (.int k) [qme bo ρ Hv A]=some x:=by
   cases A<;>first|exact hd|(simp[qhv,Ty.pack1,Ty.pack]at hd)
  exact(qqx (G:=gr U' (vw H') w (mu ρ σ)) hd').2 0 (by simp[Ty.sz]) v (h.lend _ _ hv)
 | .bool,A,x,hd,v,hv=>by
  have hd:qhv fr .bool [A]=some x:=hd;have hd' :qhv fr .bool [qme bo ρ Hv A]=some x:=by
   cases A<;>first|exact hd|(simp[qhv,Ty.pack1,Ty.pack]at hd)
  exact(qqx (G:=gr U' (vw H') w (mu ρ σ)) hd').2 0 (by simp[Ty.sz]) v (h.lend _ _ hv)
 | .str,A,x,hd,v,hv=>by
  have hd:qhv fr .str [A]=some x:=hd;have hd' :qhv fr .str [qme bo ρ Hv A]=some x:=by
   cases A<;>first|exact hd|(simp[qhv,Ty.pack1,Ty.pack]at hd)
  exact(qqx (G:=gr U' (vw H') w (mu ρ σ)) hd').2 0 (by simp[Ty.sz]) v (h.lend _ _ hv)
 | .slice t,A,x,hd,v,hv=>by
  have hd:(match jvj Hv A with|some (tg,sz,n,cs)=>bif !na tg ρ&&Nat.beq sz t.sz&&qx5 fr (!bo)then jvo fr t n (qi6 bo ρ Hv cs)else none|none=>qhv fr (.slice t) [qme bo ρ Hv A])=some x:=hd;split at hd
  ·rename_i tg sz n cs hcs;have hb:=(ag hd).1
   replace hd:=(ag hd).2
   simp only[Bool.and_eq_true,Bool.not_eq_true']at hb;obtain⟨⟨hb1,hb2⟩,hb3⟩:=hb;unfold jvj at hcs;split at hcs
   ·rename_i tg';split at hcs
    ·rename_i ty sz' n' cs' hov;simp only[Option.some.injEq,Prod.mk.injEq]at hcs;obtain⟨rfl,rfl,rfl,rfl⟩:=hcs;have ho:=h.le.obc hov;have hsz:=a8 hb2;subst hsz;unfold jvo at hd;split at hd
     ·rename_i xs g hpk;have hg:=(ag hd).1;have hx:xs=x:=Option.some.inj (ag hd).2;clear hd;subst hx;obtain⟨q1,q2,q3⟩:=Ty.packN_ok (G:=gr U' (vw H') w (mu ρ σ)) hpk;have hO:vw H (.o tg')=some ⟨ty,t.sz,n',fun i f=>cs'.getD (i*t.sz+f) .any⟩:=by simp[vw,ho,vwO]
      obtain⟨m,sz2,hI,hs⟩:=hv;have hI' :ah (vw H) (.o tg')=some (m,sz2):=hI;simp only[ah,hO,Option.map_some,Option.some.injEq,Prod.mk.injEq]at hI';obtain⟨rfl,rfl⟩:=hI';have hrow:∀g' o,σ (.o tg')=some (g',o)→qko w (YY (ed (mu ρ σ)) U' fr) t xs g' o:=by
       intro g' o hσ;have hob:=h.hr.obj _ _ hO;rw[hσ]at hob;refine OR.row hob (h.hr.lt hσ) (h.out (T:= .o tg') hb1 hσ (fun e=>by simpa[qx5,e]using hb3)) rfl q1.symm fun i f hi hf y hV=> ?_
       have h1:=q3 i f (by omega) hf y (by rw[qu0];exact h.lend _ _ hV);exact Ty.C_fr (G:=gr U' (vw H') w (mu ρ σ)) (qgy hg) h1
      have h3:=SlR.fz (off:=0) (n:=xs.length) (by omega) hrow (by rw[q1];exact hs);simp only[List.drop_zero,List.take_length]at h3;exact h3
     ·cases hd
    ·cases hcs
   ·cases hcs
  ·exact(qqx (G:=gr U' (vw H') w (mu ρ σ)) (show qhv fr (.slice t) [qme bo ρ Hv A]=some x from hd)).2 0 (by simp[Ty.sz]) v (h.lend _ _ hv)
end
end Go.K
namespace Go.K
open Go.M Go.RowKit
section
variable {U U' : Nat → Prop} {w0 : World} {σ0 : Pl} {K : Nat → Bool} {H Hv H' : List TOb} {w : World} {σ : Pl} {ρ : Rho} {bo : Bool}
theorem jny(h:Cv U U' w0 σ0 K H Hv H' w σ ρ bo){fr:Bool}{t:Ty}{A:TV}{x:t.den}(hd:jnx bo ρ Hv fr t A=some x){v:Value}(hv:VR (gr U (vw H) w σ) A v):VR (gr U' (vw H') w (mu ρ σ)) (.rptr fr t [x] (.ofNat 0) 0) v:=by
 unfold jnx at hd;split at hd
 ·rename_i fr' t' x';split at hd
  ·rename_i he _;obtain⟨hb,hd⟩:=ag hd;subst he;cases hd;obtain⟨b,o,rfl,hrow⟩:=hv;refine⟨b,o,rfl,?_⟩;refine qko.low (w:=w) (w' :=w) ⟨Nat.le_refl _,fun b hb' hY hY' =>(h.low fr).ex b hb' (fun hY2=>hY ?_) hY',fun _ _ _=>rfl⟩ hrow;rcases hY2 with e|⟨e1,e2⟩
   ·exact .inl e
   ·exact .inr ⟨qgy hb e1,e2⟩
  ·cases hd
 ·rename_i tg;split at hd
  ·rename_i ty sz n cs hov;have hb:=(ag hd).1
   replace hd:=(ag hd).2
   simp only[Bool.and_eq_true,Bool.not_eq_true']at hb;obtain⟨⟨⟨hb1,hb2⟩,hb3⟩,hb4⟩:=hb;have hn:=a8 hb2;have hsz:=a8 hb3;subst hn;subst hsz;obtain⟨h1,h2⟩:=qqx (G:=gr U' (vw H') w (mu ρ σ)) hd;obtain⟨g,o,n,sz,hσ,hI,rfl⟩:=hv;have hvw:=qa9 (h.le.obc hov);have hI' :ah (vw H) (.o tg)=some (n,sz):=hI;simp only[ah,hvw,Option.map_some,Option.some.injEq,Prod.mk.injEq]at hI';obtain⟨rfl,rfl⟩:=hI';have hob:=h.hr.obj _ _ hvw;have hσ' :σ (.o tg)=some (g,o):=hσ;rw[hσ']at hob;refine⟨g,o,rfl,h.hr.lt hσ',h.out (T:= .o tg) hb1 hσ' (fun e=>by have:=qgy hb4 e;simpa using this),fun i f hi hf=> ?_⟩;obtain rfl:i=0:=by simpa using hi
   obtain⟨cur,c,hc1,hc2,hc3,hc4⟩:=hob.cells (.inr (Nat.zero_lt_one));obtain⟨y,hy,h3,hV⟩:=hc4 0 f (by simp) hf;refine⟨y,?_,h3,?_⟩
   ·have hc1' :w.heap[g]? =some (.cells cur ty (0,0)):=hc1;show w.cell? _=_;rw[cell_of_row _ _ _ cur ty (0,0) hc1'];exact hy
   ·simp only[List.getD_cons_zero];refine(Ty.C_iff (gr U' (vw H') w (mu ρ σ)) fr t x f y hf).2 (h2 f hf y ?_);rw[qu0];refine h.lend _ _ ?_;simpa using hV
  ·cases hd
 ·cases hd
theorem jq1(h:Cv U U' w0 σ0 K H Hv H' w σ ρ bo){fr:Bool}{kt vt:Ty}{A:TV}{es:List (kt.den×vt.den)}(hd:jvn bo ρ Hv fr kt vt A=some es){v:Value}(hv:VR (gr U (vw H) w σ) A v):VR (gr U' (vw H') w (mu ρ σ)) (.dm fr kt vt es) v:=by
 unfold jvn at hd;split at hd
 ·rename_i fr' kt' vt' es';split at hd
  ·rename_i h1 h2 _ _;obtain⟨hb,hd⟩:=ag hd;subst h1;subst h2;cases hd;refine qtc.low (w:=w) (w' :=w) ⟨Nat.le_refl _,fun b hb' hY hY' =>(h.low fr).ex b hb' (fun hY2=>hY ?_) hY',fun _ _ _=>rfl⟩ hv;rcases hY2 with e|⟨e1,e2⟩
   ·exact .inl e
   ·exact .inr ⟨qgy hb e1,e2⟩
  ·cases hd
 ·cases hd;exact .inl ⟨hv,rfl⟩
 ·rename_i tg;split at hd
  ·rename_i kt' u ety es' hov;split at hd
   ·rename_i h1 h2 _ _
    ·have hb:=(ag hd).1
     replace hd:=(ag hd).2
     subst h1;subst h2;cases hd;simp only[Bool.and_eq_true,Bool.not_eq_true']at hb;obtain⟨hb1,hb2⟩:=hb;have ho:=h.le.obo hov;obtain⟨g,o,q,hσ,_,rfl⟩:=hv;have hσ:σ (.o tg)=some (g,o):=hσ;have hfb:fr=true→bo=false:=fun e=>by have:=qgy hb2 e;simpa using this
     have hob:=h.hr.obj _ _ (wc ho);rw[hσ]at hob;obtain⟨hs,c,hh,hmo⟩:=hob.map rfl rfl;have hkl:=qu4 hmo;refine .inr ⟨g,hs,c,rfl,h.hr.lt hσ,h.out (T:= .o tg) hb1 hσ hfb,hh,hmo.1,by have:=hkl.1;rwa[Array.length_toList]at this,fun i e p he hp=>⟨hkl.2 i e p (by simpa using he) hp,?_⟩⟩;obtain⟨pk,py⟩:=p;obtain⟨ys,hys⟩:∃ys:List u.den,ys=py:=⟨py,rfl⟩;have hp:es'[i]? =some (pk,ys):=by rw[hys];exact hp
     show Ty.C w (YY (ed (mu ρ σ)) U' fr) (.slice u) py 0 e.val;rw[←hys];clear hys;obtain⟨_,hV⟩:=hmo.at_ he;have hV:VR (gr U (vw H) w σ) (moC tg kt' es' none i 1) e.val:=hV;rw[qg5 hp,if_neg (by simp)]at hV;have hi:i<es'.length:=(List.getElem?_eq_some_iff.1 hp).1;have hmr:qhy es' i=ys:=by unfold qhy;rw[hp]
     have hvk:vw H (.r tg i 0)=some ⟨ety,u.sz,ys.length,fun j g=>(u.cells true (ys.getD j u.dft)).getD g .any⟩:=by rw[ni ho,if_pos ⟨rfl,hi⟩,hmr]
     obtain⟨n,sz,hI,hS⟩:=hV;have hI:ah (vw H) (.r tg i 0)=some (n,sz):=hI;simp only[ah,hvk,Option.map_some,Option.some.injEq,Prod.mk.injEq]at hI;obtain⟨rfl,rfl⟩:=hI;have hrow:∀g o,σ (.r tg i 0)=some (g,o)→qko w (YY (ed (mu ρ σ)) U' fr) u ys g o:=fun g o hσr=>by
      have hor:=h.hr.obj _ _ hvk;rw[hσr]at hor;refine OR.row hor (h.hr.lt hσr) (h.out (T:= .r tg i 0) hb1 hσr hfb) rfl rfl fun j f hj hf y hV=> ?_
      have hC:=(Ty.C_iff (gr U (vw H) w σ) true u _ f y hf).2 hV;refine Ty.C_low (w:=w) (w' :=w) ⟨Nat.le_refl _,fun b hb' hY hY' =>(h.low fr).ex b hb' (fun hY2=>hY ?_) hY',fun _ _ _=>rfl⟩ u _ f y hC;rcases hY2 with e|⟨_,e2⟩
      ·exact .inl e
      ·exact .inr ⟨rfl,e2⟩
     have hS:SlR w σ (.r tg i 0) u.sz 0 ys.length e.val:=hS;have:=SlR.fz (off:=0) (n:=ys.length) (by omega) hrow hS;simp only[List.drop_zero,List.take_length]at this;exact this
   ·cases hd
  ·rename_i kt' vt' es' hov;split at hd
   ·rename_i h1 h2 _ _;have hb:=(ag hd).1
    replace hd:=(ag hd).2
    subst h1;subst h2;cases hd;simp only[Bool.and_eq_true,Bool.not_eq_true']at hb;obtain⟨⟨hb1,hb2⟩,hb3⟩:=hb;have ho:=h.le.obm hov;obtain⟨g,o,q,hσ,_,rfl⟩:=hv;have hσ:σ (.o tg)=some (g,o):=hσ;have hfb:fr=true→bo=false:=fun e=>by have:=qgy hb2 e;simpa using this
    have hob:=h.hr.obj _ _ (qkn ho);rw[hσ]at hob;obtain⟨hs,c,hh,hmo⟩:=hob.map rfl rfl;obtain⟨hl,hat⟩:=(jcb hmo).at_;refine .inr ⟨g,hs,c,rfl,h.hr.lt hσ,h.out (T:= .o tg) hb1 hσ hfb,hh,hmo.1,by rwa[Array.length_toList]at hl,fun i e p he hp=> ?_⟩;obtain⟨e1,e2⟩:=hat i e p (by simpa using he) hp;refine⟨e1,?_⟩;rw[e2];cases vt' with
    |int k=>rfl
    |bool=>rfl
    |str=>rfl
    |slice t=>cases hb3
    |struct l=>cases hb3
    |tree _ _=>cases hb3
   ·cases hd
  ·cases hd
 ·cases hd
theorem VR.st{G:Gr}{A:TV}{v:Value}(h:VR G A v):VR G A.st v:=by
 cases A<;>first|exact h|exact h.1
mutual
theorem Sh.dec_ok(h:Cv U U' w0 σ0 K H Hv H' w σ ρ bo):∀(s:Sh) (A:TV) (x:s.den),s.dec bo ρ Hv A=some x→∀v,VR (gr U (vw H) w σ) A v→VR (gr U' (vw H') w (mu ρ σ)) (s.enc x) v
 | .d fr t,A,x,hd,v,hv=>jq0 h hd hv.st
 | .rp fr t,A,x,hd,v,hv=>jny h hd hv.st
 | .own i,A,x,hd,v,hv=>by
  have nilCase:ρ[i]? =some none→(∃a,v= .slice a 0 0)→VR (gr U' (vw H') w (mu ρ σ)) (.own (.o i)) v:=by
   rintro hi ⟨a,rfl⟩;obtain⟨sz,hs⟩:=h.nil i hi;exact⟨0,sz,hs, .inl ⟨a,rfl,rfl⟩⟩
  unfold Sh.dec at hd
  replace hv:=hv.st
  generalize A.st=A' at hd hv;split at hd
  ·rename_i tg;split at hd
   ·rename_i t hi;obtain⟨hb,hd⟩:=ag hd;have hb:=a8 hb;subst hb;obtain⟨n,sz,hI,hs⟩:=hv;refine⟨n,sz,(h.dim i t hi).trans hI,?_⟩;rcases hs with hs|⟨g,o,c,cur,e,hσ,h1,h2,h3,h4,h5⟩
    ·exact .inl hs
    ·exact .inr ⟨g,o,c,cur,e,(zj (T:= .o i) hi).trans hσ,h1,h2,h3,h4,h5⟩
   ·cases hd
  ·split at hd
   ·rename_i hi;exact nilCase hi ⟨none,hv⟩
   ·cases hd
  ·split at hd
   ·rename_i hi;exact nilCase hi hv
   ·cases hd
  ·cases hd
 | .kid i f,A,x,hd,v,hv=>by
  unfold Sh.dec at hd
  replace hv:=hv.st
  generalize A.st=A' at hd hv;split at hd
  ·rename_i tg j f';split at hd
   ·rename_i t hi;have hbd:=ag hd;clear hd;obtain⟨hb,hd2⟩:=hbd;simp only[Bool.and_eq_true]at hb;have hb1:=a8 hb.1;have hb2:=a8 hb.2;subst hb1;subst hb2;cases hd2;obtain⟨n,sz,hI,hs⟩:=hv;refine⟨n,sz,h.kdim i t hi j f' _ hI,?_⟩;rcases hs with hs|⟨g,o,c,cur,e,hσ,h1,h2,h3,h4,h5⟩
    ·exact .inl hs
    ·exact .inr ⟨g,o,c,cur,e,(zj (T:= .r i j f') hi).trans hσ,h1,h2,h3,h4,h5⟩
   ·cases hd
  ·cases hd
 | .ptr i,A,x,hd,v,hv=>by
  unfold Sh.dec at hd
  replace hv:=hv.st
  generalize A.st=A' at hd hv;split at hd
  ·rename_i tg;split at hd
   ·rename_i t hi;obtain⟨hb,hd⟩:=ag hd;have hb:=a8 hb;subst hb;obtain⟨g,o,n,sz,hσ,hI,h1⟩:=hv;exact⟨g,o,n,sz,(zj (T:= .o i) hi).trans hσ,(h.dim i t hi).trans hI,h1⟩
   ·cases hd
  ·cases hd
 | .dm fr kt vt,A,x,hd,v,hv=>jq1 h hd hv.st
 | .it,A,x,hd,v,hv=>by
  unfold Sh.dec at hd
  replace hv:=hv.st
  generalize A.st=A' at hd hv;split at hd
  ·cases hd;exact hv
  ·cases hd
 | .e,A,x,hd,v,hv=>by
  unfold Sh.dec at hd
  replace hv:=hv.st
  generalize A.st=A' at hd hv;split at hd
  ·exact hv
  ·cases hd
 | .mp i,A,x,hd,v,hv=>by
  unfold Sh.dec at hd
  replace hv:=hv.st
  generalize A.st=A' at hd hv;split at hd
  ·rename_i tg;split at hd
   ·rename_i t hi;obtain⟨hb,hd⟩:=ag hd;have hb:=a8 hb;subst hb;obtain⟨g,o,q,hσ,hI,h1⟩:=hv;exact⟨g,o,q,(zj (T:= .o i) hi).trans hσ,(h.dim i t hi).trans hI,h1⟩
   ·cases hd
  ·cases hd
 | .fn f l,A,x,hd,v,hv=>by
  unfold Sh.dec at hd
  replace hv:=hv.st
  generalize A.st=A' at hd hv;split at hd
  ·rename_i f' cs;obtain⟨hb,hd⟩:=ag hd;have hb:=a8 hb;subst hb;obtain⟨vs,h1,h2⟩:=hv;exact⟨vs,h1,ShL.dec_ok h l cs x hd vs h2⟩
  ·cases hd
 | .nl b s,A,x,hd,v,hv=>by
  unfold Sh.dec at hd;obtain⟨hb,hd⟩:=ag hd;exact⟨Sh.dec_ok h s _ x hd v hv.st,jlo hb hv⟩
 | .nf s,A,x,hd,v,hv=>by
  unfold Sh.dec at hd;split at hd
  ·rename_i y hy;cases hd;exact⟨Sh.dec_ok h s _ y hy v hv.st,jl1 hv⟩
  ·cases hd
 | .agg l,A,x,hd,v,hv=>by
  replace hv:=hv.st
  unfold Sh.dec at hd;generalize A.st=A at hd hv;cases A
  case agg cs=>
   have hd:l.dec bo ρ Hv cs=some x:=hd;obtain⟨vs,h1,h2,h3⟩:=hv;exact⟨vs,h1,ShL.dec_ok h l cs x hd vs h2,h3⟩
  all_goals cases hd
theorem ShL.dec_ok(h:Cv U U' w0 σ0 K H Hv H' w σ ρ bo):∀(l:ShL) (cs:List TV) (x:l.den),l.dec bo ρ Hv cs=some x→∀vs,iw (gr U (vw H) w σ) cs vs→iw (gr U' (vw H') w (mu ρ σ)) (l.enc x) vs
 | .nil,cs,x,hd,vs,hv=>by
  unfold ShL.dec at hd;split at hd
  ·exact hv
  ·cases hd
 | .cons s l,cs,x,hd,vs,hv=>by
  unfold ShL.dec at hd;split at hd
  ·rename_i A r;split at hd
   ·rename_i x1 hx;split at hd
    ·rename_i y hy;cases hd;obtain⟨u,m,rfl,h1,h2⟩:=hv;exact⟨u,m,rfl,Sh.dec_ok h s A x1 hx u h1,ShL.dec_ok h l r y hy m h2⟩
    ·cases hd
   ·cases hd
  ·cases hd
end
theorem ShL.dec_at(h:Cv U U' w0 σ0 K H Hv H' w σ ρ bo):∀(l:ShL) (cs:List TV) (x:l.den),l.dec bo ρ Hv cs=some x→∀(j:Nat) v,VR (gr U (vw H) w σ) (cs.getD j .any) v→VR (gr U' (vw H') w (mu ρ σ)) ((l.enc x).getD j .any) v
 | .nil,cs,x,hd,j,v,hv=>by simp[ShL.enc,VR]
 | .cons s l,cs,x,hd,j,v,hv=>by
  unfold ShL.dec at hd;split at hd
  ·rename_i A r;split at hd
   ·rename_i x1 hx;split at hd
    ·rename_i y hy;cases hd;cases j with
     |zero=>simpa[ShL.enc]using Sh.dec_ok h s A x1 hx v (by simpa using hv)
     |succ j=>simpa[ShL.enc]using ShL.dec_at h l r y hy j v (by simpa using hv)
    ·cases hd
   ·cases hd
  ·cases hd
end
section
variable {bo : Bool} {ρ : Rho} {H : List TOb}
theorem quw:∀(os:Rho) (l:List Hs) (y:xt l),qmd bo ρ H os l=some y→os.length=l.length∧(ey l y).length=l.length∧∀(i:Nat) o,os[i]? =some o→∃(hs:Hs) (xi:hs.den),hs.dec bo ρ H o=some xi∧(ey l y)[i]? =some (hs.enc xi)
 |[],[],y,h=>⟨rfl,rfl,fun i o ho=>by simp at ho⟩
 |[],p::l,y,h=>by simp[qmd]at h
 |o::os,[],y,h=>by simp[qmd]at h
 |o::os,p::l,y,h=>by
  unfold qmd at h;split at h
  ·rename_i x hx;split at h
   ·rename_i y' hy;cases h;obtain⟨h1,h2,h3⟩:=quw os l y' hy;refine⟨by simp[h1],by simp[ey,h2],fun i o' ho=> ?_⟩;cases i with
    |zero=>
     simp at ho;subst ho;exact⟨p,x,hx,by simp[ey]⟩
    |succ i=>
     obtain⟨hs,xi,e1,e2⟩:=h3 i o' (by simpa using ho);exact⟨hs,xi,e1,by simpa[ey]using e2⟩
   ·cases h
  ·cases h
theorem jjg:∀{a b:List TypeId},jlq a b=true→a=b
 |[],[],_=>rfl
 |[],b::m,h=>by simp[jlq]at h
 |a::l,[],h=>by simp[jlq]at h
 |a::l,b::m,h=>by
  simp only[jlq,Bool.and_eq_true]at h;rw[a8 h.1,jjg h.2]
theorem Hs.dec_cases{hs:Hs}{o:Option Nat}{xi:hs.den}(h:hs.dec bo ρ H o=some xi):
  (o=none∧∃ty md its t,jss md=true∧hs.enc xi= .arr ty md its t [])∨
  (∃tg ty md md' its t xs,o=some tg∧H[tg]? =some (.arr ty md' its t xs)∧je7 md md' =true∧hs.enc xi= .arr ty md its t xs)∨
  (∃tg ty sz n l cs x,o=some tg∧H[tg]? =some (.cs ty sz n cs)∧ShL.dec bo ρ H l cs=some x∧0<n∧hs.enc xi= .cs ty sz n (l.enc x))∨
  (∃tg kt vt es,o=some tg∧H[tg]? =some (.mp kt vt es)∧hs.enc xi= .mp kt vt es)∨
  (∃tg kt u ety es,o=some tg∧H[tg]? =some (.mo kt u ety es none)∧hs.enc xi= .mo kt u ety es none):=by
 cases hs with
 |arr ty md its t=>
  unfold Hs.dec at h;simp only[]at h;split at h
  ·obtain⟨hb,h⟩:=ag h;cases h;exact .inl ⟨rfl,ty,md,its,t,hb,rfl⟩
  ·rename_i tg;split at h
   ·rename_i ty' md' its' t' xs hov;split at h
    ·rename_i he _;obtain⟨hb,h⟩:=ag h;subst he;cases h;simp only[Bool.and_eq_true]at hb;have e1:=a8 hb.1.1;have e2:=jjg hb.2;subst e1;subst e2;exact .inr (.inl ⟨tg,_,md,md',_,_,xs,rfl,hov,hb.1.2,rfl⟩)
    ·cases h
   ·cases h
 |cs ty sz n l=>
  unfold Hs.dec at h;simp only[]at h;split at h
  ·cases h
  ·rename_i tg;split at h
   ·rename_i ty' sz' n' ws hov;obtain⟨hb,h⟩:=ag h;simp only[Bool.and_eq_true]at hb;have e1:=a8 hb.1.1.1;have e2:=a8 hb.1.1.2;have e3:=a8 hb.1.2;subst e1;subst e2;subst e3;exact .inr (.inr (.inl ⟨tg,_,_,_,l,ws,xi,rfl,hov,h,d6 hb.2,rfl⟩))
   ·cases h
 |mp kt vt=>
  unfold Hs.dec at h;simp only[]at h;split at h
  ·cases h
  ·rename_i tg;split at h
   ·rename_i kt' vt' es hov;split at h
    ·rename_i h1 h2 _ _;subst h1;subst h2;cases h;exact .inr (.inr (.inr (.inl ⟨tg,_,_,es,rfl,hov,rfl⟩)))
    ·cases h
   ·cases h
 |mo kt u ety=>
  unfold Hs.dec at h;simp only[]at h;split at h
  ·cases h
  ·rename_i tg;split at h
   ·rename_i kt' u' ety' es hov;split at h
    ·rename_i h1 h2 _ _;obtain⟨hb,h⟩:=ag h;have e1:=a8 hb;subst e1;subst h1;subst h2;cases h;exact .inr (.inr (.inr (.inr ⟨tg,_,_,_,es,rfl,hov,rfl⟩)))
    ·cases h
   ·cases h
end
end Go.K
