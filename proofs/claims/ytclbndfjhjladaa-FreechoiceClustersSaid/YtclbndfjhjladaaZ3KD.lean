/-
  A typed machine over the model's memory (part KD). No program is named.
-/
import Derived.Test.YtclbndfjhjladaaZ3KC
set_option linter.all false
namespace Go.K
open Go.M Go.RowKit
structure Ext (s s':TS):Prop where
 H:s.H=s'.H
 S:∀ t,getS s.S t=getS s'.S t
theorem Ext.refl (s:TS):Ext s s:=⟨rfl,fun _=>rfl⟩
theorem Ext.symm {s s':TS} (h:Ext s s'):Ext s' s:=⟨h.H.symm,fun t=>(h.S t).symm⟩
theorem Ext.trans {s s' s'':TS} (h:Ext s s') (h':Ext s' s''):Ext s s'':=⟨h.H.trans h'.H,fun t=>(h.S t).trans (h'.S t)⟩
theorem Ext.ap {s s':TS} (h:Ext s s') (x:St):Ext (s.ap x) (s'.ap x):=by
 refine ⟨by simp only [TS.ap,h.H],fun t=>?_⟩
 cases x with
 | sb θ => simp only [TS.ap,sAp,q1r,h.S]
 | set t o => exact h.S _
 | new t o => exact h.S _
theorem Ext.aps {s s':TS} (h:Ext s s'):∀ δ:List St,Ext (s.aps δ) (s'.aps δ)
 | [] => h
 | x :: δ => Ext.aps (h.ap x) δ
theorem q5o {S:List (Nat×TV)} {d:Option Tmp} {v:TV} {t:Nat}:getS (putT S d v) t=if d=some t then v else getS S t:=by
 cases d with
 | none => rfl
 | some d => simp only [putT,qke,Option.some.injEq]
theorem qdb (s:TS) (d:Option Tmp) (v:TV):s.put d v=⟨putT s.S d v,s.H⟩:=by cases d<;>rfl
theorem Ext.put {s s':TS} (h:Ext s s') (d:Option Tmp) (v:TV):Ext (s.put d v) (s'.put d v):=by
 rw [qdb,qdb]
 exact ⟨h.H,fun t=>by simp only [q5o,h.S]⟩
section
variable {U:Nat→Prop} {w0:World} {σ0:Pl} {K:Nat→Bool} {N:Nat}
theorem Rel.ext {s s':TS} (h:Ext s s') {a:Act} {w:World} {σ:Pl} (hr:Rel U w0 σ0 K N s a w σ):Rel U w0 σ0 K N s' a w σ:=by
 have e:getS s.S=getS s'.S:=funext h.S
 show ARel _ _ _ _ _ _ _ _ _ _
 rw [← e,← h.H]
 exact hr
end
theorem q1ew {N:Nat} {S S':List (Nat×TV)} (h:∀ t,getS S t=getS S' t):evT N S=evT N S':=by
 funext x
 cases x with
 | tmp t => simp only [evT,rd,h]
 | _ => rfl
mutual
def Wk:TV→TV→Prop
 | _, .any => True
 | .fn f l, .fn g m => f=g∧WkL l m
 | .agg l, .agg m => WkL l m
 | .tup l, .tup m => WkL l m
 | .cond c a, .cond c' b => c=c'∧Wk a b
 | .nl a b, .nl c d => a=c∧Wk b d
 | a, b => a=b
def WkL:List TV→List TV→Prop
 | [], [] => True
 | a :: l, b :: m => Wk a b∧WkL l m
 | _, _ => False
end
mutual
theorem Wk.vr {G:Gr}:∀ (A B:TV) (v:Value),Wk A B→VR G A v→VR G B v
 | A, .any, v, _, _ => trivial
 | .fn f l, .fn g m, v, h, hv => by
   obtain ⟨rfl,h⟩:=h
   obtain ⟨vs,hl,hc⟩:=hv
   exact ⟨vs,hl,WkL.vr l m vs h hc⟩
 | .agg l, .agg m, v, h, hv => by
   obtain ⟨vs,hl,hc,h1⟩:=hv
   exact ⟨vs,hl,WkL.vr l m vs h hc,h1⟩
 | .tup l, .tup m, v, h, hv => by
   obtain ⟨vs,hl,hc⟩:=hv
   exact ⟨vs,hl,WkL.vr l m vs h hc⟩
 | .cond c a, .cond c' b, v, h, hv => by
   obtain ⟨rfl,h⟩:=h
   unfold VR at hv ⊢
   split
   · rename_i hc; rw [if_pos hc] at hv; exact Wk.vr a b v h hv
   · rename_i hc; rw [if_neg hc] at hv; exact hv
 | .nl a b, .nl c d, v, h, hv => by
   obtain ⟨rfl,h⟩:=h
   exact ⟨Wk.vr b d v h hv.1,hv.2⟩
 | A, .int k n, v, h, hv => by cases A<;>simp only [Wk] at h<;>first | (cases h; done) | (cases h; exact hv) | (rw [h] at hv; exact hv)
 | A, .bool b, v, h, hv => by cases A<;>simp only [Wk] at h<;>first | (cases h; done) | (cases h; exact hv) | (rw [h] at hv; exact hv)
 | A, .val u, v, h, hv => by cases A<;>simp only [Wk] at h<;>first | (cases h; done) | (cases h; exact hv) | (rw [h] at hv; exact hv)
 | A, .e0, v, h, hv => by cases A<;>simp only [Wk] at h<;>first | (cases h; done) | (cases h; exact hv) | (rw [h] at hv; exact hv)
 | A, .sl fr t xs, v, h, hv => by cases A<;>simp only [Wk] at h<;>first | (cases h; done) | (cases h; exact hv) | (rw [h] at hv; exact hv)
 | A, .rptr fr t xs i f, v, h, hv => by cases A<;>simp only [Wk] at h<;>first | (cases h; done) | (cases h; exact hv) | (rw [h] at hv; exact hv)
 | A, .own T, v, h, hv => by cases A<;>simp only [Wk] at h<;>first | (cases h; done) | (cases h; exact hv) | (rw [h] at hv; exact hv)
 | A, .ownS T off n, v, h, hv => by cases A<;>simp only [Wk] at h<;>first | (cases h; done) | (cases h; exact hv) | (rw [h] at hv; exact hv)
 | A, .mp T, v, h, hv => by cases A<;>simp only [Wk] at h<;>first | (cases h; done) | (cases h; exact hv) | (rw [h] at hv; exact hv)
 | A, .ptr T i f, v, h, hv => by cases A<;>simp only [Wk] at h<;>first | (cases h; done) | (cases h; exact hv) | (rw [h] at hv; exact hv)
theorem WkL.vr {G:Gr}:∀ (l m:List TV) (vs:List Value),WkL l m→VRL G l vs→VRL G m vs
 | [], [], vs, _, hv => hv
 | a :: l, b :: m, vs, h, hv => by
   obtain ⟨u,r,rfl,h1,h2⟩:=hv
   exact ⟨u,r,rfl,Wk.vr a b u h.1 h1,WkL.vr l m r h.2 h2⟩
 | [], b :: m, vs, h, _ => h.elim
 | a :: l, [], vs, h, _ => h.elim
end
mutual
theorem Wk.refl:∀ (A:TV),Wk A A
 | .any => trivial
 | .fn f l => ⟨rfl,WkL.refl l⟩
 | .agg l => WkL.refl l
 | .tup l => WkL.refl l
 | .cond c a => ⟨rfl,Wk.refl a⟩
 | .nl _ a => ⟨rfl,Wk.refl a⟩
 | .int _ _ => rfl
 | .bool _ => rfl
 | .val _ => rfl
 | .e0 => rfl
 | .sl _ _ _ => rfl
 | .rptr _ _ _ _ _ => rfl
 | .own _ => rfl
 | .ownS _ _ _ => rfl
 | .ptr _ _ _ => rfl
 | .mp _ => rfl
theorem WkL.refl:∀ (l:List TV),WkL l l
 | [] => trivial
 | a :: l => ⟨Wk.refl a,WkL.refl l⟩
end
mutual
theorem Wk.kill {θ:TG→Ac} (hθ:∀ T,θ T=.id∨θ T=.kill):∀ (A:TV),Wk A (A.sb θ)
 | .any => trivial
 | .fn f l => ⟨rfl,WkL.kill hθ l⟩
 | .agg l => WkL.kill hθ l
 | .tup l => WkL.kill hθ l
 | .cond c a => ⟨rfl,Wk.kill hθ a⟩
 | .nl _ a => ⟨rfl,Wk.kill hθ a⟩
 | .int _ _ => rfl
 | .bool _ => rfl
 | .val _ => rfl
 | .e0 => rfl
 | .sl _ _ _ => rfl
 | .rptr _ _ _ _ _ => rfl
 | .own T => by rcases hθ T with e | e<;>simp [TV.sb,e,Wk]
 | .ownS T _ _ => by rcases hθ T with e | e<;>simp [TV.sb,e,Wk]
 | .mp T => by rcases hθ T with e | e<;>simp [TV.sb,e,Wk]
 | .ptr T _ _ => by rcases hθ T with e | e<;>simp [TV.sb,e,Wk]
theorem WkL.kill {θ:TG→Ac} (hθ:∀ T,θ T=.id∨θ T=.kill):∀ (l:List TV),WkL l (TV.sbL θ l)
 | [] => trivial
 | a :: l => ⟨Wk.kill hθ a,WkL.kill hθ l⟩
end
theorem qlc {a:Ac} (h:a.isId=true):a=.id:=by cases a<;>simp_all [Ac.isId]
mutual
theorem Wk.sb {θ:TG→Ac}:∀ (A B:TV),Wk A B→B.all (fun T=>(θ T).isId)=true→Wk (A.sb θ) B
 | A, .any, _, _ => by cases A<;>first | trivial | (simp only [TV.sb]; first | trivial | (split<;>trivial))
 | .fn f l, .fn g m, h, ha => ⟨h.1,WkL.sb l m h.2 ha⟩
 | .agg l, .agg m, h, ha => WkL.sb l m h ha
 | .tup l, .tup m, h, ha => WkL.sb l m h ha
 | .cond c a, .cond c' b, h, ha => ⟨h.1,Wk.sb a b h.2 ha⟩
 | .nl _ a, .nl _ b, h, ha => ⟨h.1,Wk.sb a b h.2 ha⟩
 | A, .int k n, h, ha => by cases A<;>simp only [Wk] at h<;>first | (cases h; done) | exact h
 | A, .bool b, h, ha => by cases A<;>simp only [Wk] at h<;>first | (cases h; done) | exact h
 | A, .val u, h, ha => by cases A<;>simp only [Wk] at h<;>first | (cases h; done) | exact h
 | A, .e0, h, ha => by cases A<;>simp only [Wk] at h<;>first | (cases h; done) | trivial
 | A, .sl fr t xs, h, ha => by cases A<;>simp only [Wk] at h<;>first | (cases h; done) | exact h
 | A, .rptr fr t xs i f, h, ha => by cases A<;>simp only [Wk] at h<;>first | (cases h; done) | exact h
 | A, .own T, h, ha => by cases A<;>simp only [Wk] at h<;>first | (cases h; done) | (cases h; simp only [TV.all] at ha; simp only [TV.sb,qlc ha,Wk])
 | A, .ownS T off n, h, ha => by cases A<;>simp only [Wk] at h<;>first | (cases h; done) | (cases h; simp only [TV.all] at ha; simp only [TV.sb,qlc ha,Wk])
 | A, .mp T, h, ha => by cases A<;>simp only [Wk] at h<;>first | (cases h; done) | (cases h; simp only [TV.all] at ha; simp only [TV.sb,qlc ha,Wk])
 | A, .ptr T i f, h, ha => by cases A<;>simp only [Wk] at h<;>first | (cases h; done) | (cases h; simp only [TV.all] at ha; simp only [TV.sb,qlc ha,Wk])
theorem WkL.sb {θ:TG→Ac}:∀ (l m:List TV),WkL l m→TV.allL (fun T=>(θ T).isId) m=true→WkL (TV.sbL θ l) m
 | [], [], _, _ => trivial
 | a :: l, b :: m, h, ha => by
   simp only [TV.allL,Bool.and_eq_true] at ha
   exact ⟨Wk.sb a b h.1 ha.1,WkL.sb l m h.2 ha.2⟩
 | [], b :: m, h, _ => h.elim
 | a :: l, [], h, _ => h.elim
end
mutual
theorem sb_all {θ:TG→Ac}:∀ (A:TV),A.all (fun T=>(θ T).isId)=true→A.sb θ=A
 | .any, _ => rfl
 | .fn f l, h => by simp only [TV.sb,qsi l h]
 | .agg l, h => by simp only [TV.sb,qsi l h]
 | .tup l, h => by simp only [TV.sb,qsi l h]
 | .cond c a, h => by simp only [TV.sb,sb_all a h]
 | .nl _ a, h => by simp only [TV.sb,sb_all a h]
 | .int _ _, _ => rfl
 | .bool _, _ => rfl
 | .val _, _ => rfl
 | .e0, _ => rfl
 | .sl _ _ _, _ => rfl
 | .rptr _ _ _ _ _, _ => rfl
 | .own T, h => by simp only [TV.all] at h; simp only [TV.sb,qlc h]
 | .ownS T _ _, h => by simp only [TV.all] at h; simp only [TV.sb,qlc h]
 | .ptr T _ _, h => by simp only [TV.all] at h; simp only [TV.sb,qlc h]
 | .mp T, h => by simp only [TV.all] at h; simp only [TV.sb,qlc h]
theorem qsi {θ:TG→Ac}:∀ (l:List TV),TV.allL (fun T=>(θ T).isId) l=true→TV.sbL θ l=l
 | [], _ => rfl
 | a :: l, h => by
   simp only [TV.allL,Bool.and_eq_true] at h
   simp only [TV.sbL,sb_all a h.1,qsi l h.2]
end
theorem q1eb {θ:TG→Ac} (o:TOb) (h:o.all (fun T=>(θ T).isId)=true):o.sb θ=o:=by
 cases o with
 | cs ty sz n l => simp only [TOb.sb,qsi l h]
 | _ => rfl
theorem q19p {p:TG→Bool}:∀ {H:List TOb},allH p H=true→∀ (t:Nat) o,H[t]? = some o→o.all p=true
 | [], _, t, o, h => by simp at h
 | a :: l, hp, t, o, h => by
   simp only [allH,Bool.and_eq_true] at hp
   cases t with
   | zero => simp at h; subst h; exact hp.1
   | succ t => exact q19p hp.2 t o (by simpa using h)
theorem q1ek {θ:TG→Ac}:∀ (H:List TOb),allH (fun T=>(θ T).isId) H=true→sbH θ H=H
 | [], _ => rfl
 | o :: l, h => by
   simp only [allH,Bool.and_eq_true] at h
   simp only [sbH,q1eb o h.1,q1ek l h.2]
theorem q1d2 {k:Nat}:∀ {l:List Nat},memN k l=true↔k∈l
 | [] => by simp [memN]
 | a :: l => by
   unfold memN
   cases e:Nat.beq a k with
   | true => simp [beq_eq e]
   | false =>
     have:a≠k:=fun e'=>by rw [e',Nat.beq_refl] at e; cases e
     simp only [cond_false,List.mem_cons,q1d2 (l:=l)]
     exact ⟨.inr,fun h=>h.elim (fun e'=>absurd e'.symm this) id⟩
theorem q14z {k:Nat} {l:List Nat}:memN k l=false↔k∉l:=by
 rw [← q1d2 (l:=l)]
 cases memN k l<;>simp
theorem q1h3 (z:List Nat) (T:TG):killZ z T=.id∨killZ z T=.kill:=by
 cases T with
 | o t => simp only [killZ]; cases memN t z<;>simp
 | r t i f => simp only [killZ]; cases memN t z<;>simp
theorem qfl (z:List Nat) (A:TV):Wk A (hideV z A):=by
 cases z with
 | nil => exact Wk.refl A
 | cons a z => exact Wk.kill (q1h3 _) A
theorem q1cp (z:List Nat):∀ (H:List TOb) (k t:Nat) ob,(viewL z k H)[t]? = some ob→ob=.gone∨(H[t]? = some ob∧(k+t)∉z)
 | [], k, t, ob, h => by simp [viewL] at h
 | o :: l, k, 0, ob, h => by
   simp only [viewL,List.getElem?_cons_zero,Option.some.injEq] at h
   cases hb:memN k z with
   | true => rw [hb] at h; exact .inl h.symm
   | false =>
     rw [hb] at h
     exact .inr ⟨by simpa using h,q14z.1 hb⟩
 | o :: l, k, t + 1, ob, h => by
   simp only [viewL,List.getElem?_cons_succ] at h
   have:=q1cp z l (k+1) t ob h
   rw [show k+1+t=k+(t+1) by omega] at this
   simpa using this
theorem q1as (z:List Nat):∀ (H:List TOb) (k:Nat),(viewL z k H).length=H.length
 | [], _ => rfl
 | o :: l, k => by simp [viewL,q1as z l]
theorem q1c8 {z:List Nat} {H:List TOb} {t:Nat} {ob:TOb} (h:(viewH z H)[t]? = some ob):ob=.gone∨(H[t]? = some ob∧t∉z):=by
 cases z with
 | nil => exact .inr ⟨h,by simp⟩
 | cons a z => simpa using q1cp (a::z) H 0 t ob h
theorem q112 (z:List Nat) (H:List TOb):(viewH z H).length=H.length:=by
 cases z with
 | nil => rfl
 | cons a z => exact q1as _ H 0
theorem q16y {t:Nat}:∀ {k n:Nat},t∈places n k↔n≤t∧t < n+k
 | 0, n => by simp only [places,List.not_mem_nil,false_iff]; omega
 | k + 1, n => by
   simp only [places,List.mem_cons,q16y (k:=k)]
   omega
def setPl:Nat→List TOb→List TOb→List TOb
 | _, [], H => H
 | n, o :: l, H => setPl (n+1) l (H.set n o)
theorem qfs:∀ (l:List TOb) (n:Nat) (H:List TOb),(setPl n l H).length=H.length
 | [], _, _ => rfl
 | o :: l, n, H => by simp [setPl,qfs l]
theorem qfh:∀ (l:List TOb) (n:Nat) (H:List TOb),n+l.length≤H.length→∀ t,(setPl n l H)[t]? = if n≤t∧t < n+l.length then l[t - n]? else H[t]?
 | [], n, H, _, t => by simp only [setPl,List.length_nil]; rw [if_neg (by omega)]
 | o :: l, n, H, h, t => by
   simp only [List.length_cons] at h
   simp only [setPl,List.length_cons]
   rw [qfh l (n+1) (H.set n o) (by simp; omega) t]
   by_cases e:t=n
   · subst e
     rw [if_neg (by omega),if_pos (by omega),List.getElem?_set_self (by omega)]
     simp
   · rw [List.getElem?_set_ne (Ne.symm e)]
     by_cases h1:n+1≤t∧t < n+1+l.length
     · rw [if_pos h1,if_pos (by omega),show t - n=(t - (n+1))+1 by omega,List.getElem?_cons_succ]
     · rw [if_neg h1,if_neg (by omega)]
theorem q16m:∀ {δ:List St} {n:Nat} {obs:List TOb},newsOf n δ=some obs→∀ t o,St.new t o∈δ→n≤t∧t < n+obs.length
 | [], n, obs, h, t, o, hm => by simp at hm
 | .new t' o' :: δ, n, obs, h, t, o, hm => by
   simp only [newsOf] at h
   obtain ⟨hb,h⟩:=q4 h
   split at h
   · rename_i r hr
     cases h
     have:=beq_eq hb
     rcases List.mem_cons.1 hm with e | hm
     · cases e
       simp; omega
     · have:=q16m hr t o hm
       simp; omega
   · cases h
 | .sb θ :: δ, n, obs, h, t, o, hm => by simp [newsOf] at h
 | .set t' o' :: δ, n, obs, h, t, o, hm => by simp [newsOf] at h
theorem q1bx:∀ {δ:List St} {n:Nat} {obs:List TOb} (s:TS),newsOf n δ=some obs→n+obs.length≤s.H.length→s.aps δ=⟨s.S,setPl n obs s.H⟩
 | [], n, obs, s, h, _ => by simp only [newsOf,Option.some.injEq] at h; subst h; rfl
 | .new t' o' :: δ, n, obs, s, h, hl => by
   simp only [newsOf] at h
   obtain ⟨hb,h⟩:=q4 h
   split at h
   · rename_i r hr
     cases h
     have:=beq_eq hb
     subst this
     simp only [List.length_cons] at hl
     have e:s.ap (.new t' o')=⟨s.S,s.H.set t' o'⟩:=by
       simp only [TS.ap,sAp,hAp,hNew]
       rw [show Nat.blt t' s.H.length=true by simp [Nat.blt_eq]; omega]
       rfl
     show (s.ap (.new t' o')).aps δ=_
     rw [e,q1bx _ hr (by simp; omega)]
     rfl
   · cases h
 | .sb θ :: δ, n, obs, s, h, _ => by simp [newsOf] at h
 | .set t' o' :: δ, n, obs, s, h, _ => by simp [newsOf] at h
end Go.K
namespace Go.K
open Go.M Go.RowKit
theorem q1ed {l:List Oper} {i:Nat} {o:Oper} (h:l[i]? = some o):onOf l i=onN o:=by simp only [onOf,h,onN]
theorem q1c9 {i:Nat}:∀ {l:List Nat},lessN i l=true→∀ k∈l,k < i
 | [], _, k, h => by simp at h
 | a :: l, hl, k, h => by
   unfold lessN at hl
   cases hb:Nat.blt a i with
   | false => rw [hb] at hl; cases hl
   | true =>
     rw [hb] at hl
     rcases List.mem_cons.1 h with rfl | h
     · exact blt_lt hb
     · exact q1c9 hl k h
theorem tab_at {tab:List Nat}:∀ {l:List Oper} {i0:Nat},tabOk tab i0 l=true→∀ (j:Nat) o,l[j]? = some o→tab.getD (i0+j) 0=tabAt tab (onN o)∧∀ k∈onN o,k < i0+j
 | [], _, _, j, o, h => by simp at h
 | a :: l, i0, ht, j, o, h => by
   unfold tabOk at ht
   obtain ⟨hb,ht⟩:(Nat.beq (tab.getD i0 0) (tabAt tab (onN a))&&lessN i0 (onN a))=true∧tabOk tab (i0+1) l=true:=by
     cases hb:(Nat.beq (tab.getD i0 0) (tabAt tab (onN a))&&lessN i0 (onN a)) with
     | false => rw [hb] at ht; cases ht
     | true => rw [hb] at ht; exact ⟨rfl,ht⟩
   simp only [Bool.and_eq_true] at hb
   cases j with
   | zero =>
     simp at h
     subst h
     exact ⟨beq_eq hb.1,q1c9 hb.2⟩
   | succ j =>
     have:=tab_at ht j o (by simpa using h)
     rw [show i0+(j+1)=i0+1+j by omega]
     exact this
theorem q1al {tab:List Nat} {j:Nat}:∀ {l:List Nat},Nat.testBit (tabAt tab l) j=true→∃ k∈l,j=k∨Nat.testBit (tab.getD k 0) j=true
 | [], h => by simp [tabAt] at h
 | a :: l, h => by
   have h':Nat.testBit (((1 <<< a) ||| tab.getD a 0) ||| tabAt tab l) j=true:=h
   rw [Nat.testBit_or,Nat.testBit_or,Bool.or_eq_true,Bool.or_eq_true] at h'
   rcases h' with (h' | h') | h'
   · rw [Nat.one_shiftLeft,Nat.testBit_two_pow,decide_eq_true_eq] at h'
     exact ⟨a,List.mem_cons_self,.inl h'.symm⟩
   · exact ⟨a,List.mem_cons_self,.inr h'⟩
   · obtain ⟨k,hk,hj⟩:=q1al h'
     exact ⟨k,List.mem_cons_of_mem _ hk,hj⟩
theorem W_done {tab:List Nat} {l:List Oper} (ht:tabOk tab 0 l=true) {D:Nat→Bool} (hcl:Closed l D):∀ (i:Nat) o,l[i]? = some o→(∀ k∈onOf l i,D k=true)→∀ j,inW tab j i=true→D j=true:=by
 intro i
 induction i using Nat.strongRecOn with
 | _ i ih =>
   intro o ho hon j hj
   obtain ⟨h1,h2⟩:=tab_at ht i o ho
   rw [Nat.zero_add] at h1 h2
   unfold inW at hj
   rw [h1] at hj
   obtain ⟨k,hk,hjk⟩:=q1al hj
   rw [q1ed ho] at hon
   have hDk:=hon k hk
   rcases hjk with rfl | hjk
   · exact hDk
   · have hlt:=h2 k hk
     have hil:i < l.length:=(List.getElem?_eq_some_iff.1 ho).1
     exact ih k hlt l[k] (List.getElem?_eq_getElem (by omega)) (fun m hm=>hcl k hDk m hm) j hjk
theorem q12l {tab:List Nat} {l:List Oper} (ht:tabOk tab 0 l=true) {D:Nat→Bool} (hcl:Closed l D) {i:Nat} {o:Oper} (ho:l[i]? = some o) (hD:D i=true) {j:Nat} (hj:inW tab j i=true):D j=true :=
 W_done ht hcl i o ho (fun k hk=>hcl i hD k hk) j hj
theorem q1es {a b:Bool} (h:(bif a then b else false)=true):a=true∧b=true:=by cases a<;>simp_all
theorem q1ao {ops:List Oper} {tab rs:List Nat} {i:Nat} {o:Oper}:∀ {l:List Oper} {k0:Nat},pairOk ops tab rs i o k0 l=true→∀ (j:Nat) o',l[j]? = some o'→pairB ops tab rs i o (k0+j) o'=true
 | [], _, _, j, o', h => by simp at h
 | a :: l, k0, hp, j, o', h => by
   unfold pairOk at hp
   obtain ⟨h1,h2⟩:=q1es hp
   cases j with
   | zero => simp at h; subst h; exact h1
   | succ j =>
     rw [show k0+(j+1)=k0+1+j by omega]
     exact q1ao h2 j o' (by simpa using h)
theorem q18e {ops:List Oper} {tab rs:List Nat}:∀ {l:List Oper} {i0:Nat},q12j ops tab rs i0 l=true→∀ (i k:Nat) o o',i < k→l[i]? = some o→l[k]? = some o'→pairB ops tab rs (i0+i) o (i0+k) o'=true
 | [], _, _, i, k, o, o', _, h, _ => by simp at h
 | a :: l, i0, hp, i, k, o, o', hik, h, h' => by
   unfold q12j at hp
   obtain ⟨h1,h2⟩:=q1es hp
   cases k with
   | zero => omega
   | succ k =>
     cases i with
     | zero =>
       simp at h
       subst h
       have:=q1ao h1 k o' (by simpa using h')
       rw [show i0+(k+1)=i0+1+k by omega]
       exact this
     | succ i =>
       have:=q18e h2 i k o o' (by omega) (by simpa using h) (by simpa using h')
       rw [show i0+(i+1)=i0+1+i by omega,show i0+(k+1)=i0+1+k by omega]
       exact this
theorem qjg {ops:List Oper} {o o':Oper} (h:clash ops o o'=false):(∀ d,o.dst=some d→d∉usN ops o'∧o'.dst≠some d)∧∀ d,o'.dst=some d→d∉usN ops o:=by
 simp only [clash,Bool.or_eq_false_iff] at h
 refine ⟨fun d hd=>?_,fun d hd=>?_⟩
 · rw [hd] at h
   simp only [Bool.or_eq_false_iff] at h
   refine ⟨q14z.1 h.1.1,fun e=>?_⟩
   have:=h.1.2
   rw [dN,e] at this
   simp only [Nat.beq_refl] at this
   cases this
 · rw [hd] at h
   exact q14z.1 h.2
structure Facts (ops:List Oper) (tab rs:List Nat):Prop where
 tb:tabOk tab 0 ops=true
 aa:∀ i k o o',i < k→ops[i]? = some o→ops[k]? = some o'→memN i rs=false→inW tab i k=false→clash ops o o'=false
 rr:∀ i k o o',i < k→ops[i]? = some o→ops[k]? = some o'→memN i rs=true→memN k rs=true→inW tab i k=true
 ra:∀ i k o o',i < k→ops[i]? = some o→ops[k]? = some o'→memN i rs=true→memN k rs=false→clash ops o o'=false
theorem facts {ops:List Oper} {tab rs:List Nat} (h:drawR ops tab rs=true):Facts ops tab rs:=by
 simp only [drawR,Bool.and_eq_true] at h
 refine ⟨h.1,fun i k o o' hik ho ho' hi hw=>?_,fun i k o o' hik ho ho' hi hk=>?_,fun i k o o' hik ho ho' hi hk=>?_⟩
 all_goals
   have hp:=q18e h.2 i k o o' hik ho ho'
   rw [Nat.zero_add,Nat.zero_add] at hp
   unfold pairB at hp
 · rw [hi] at hp
   simpa [hw] using hp
 · rw [hi,hk] at hp
   exact hp
 · rw [hi,hk] at hp
   simpa using hp
section
variable {Rf:Type}
def canS (S0:List (Nat×TV)):List En→List (Nat×TV)
 | [] => S0
 | e :: l => putT (canS S0 l) e.dst e.v
def canH (H0:List TOb):List En→List TOb
 | [] => H0
 | e :: l => canH H0 l++e.news
def Wn (N:Nat) (l:List Oper) (o:Oper) (S:List (Nat×TV)) (b:Bool):Prop :=
 match o.guard with
 | none => b=true
 | some g => ∃ d,dstAt l g.1=some d∧d < N∧((∃ c,getS S d=.bool c∧(c == g.2)=b)∨(getS S d=.undef∧b=false))
structure EnOK (X:Ctx Rf) (l:List Oper) (tab rs τ:List Nat) (S0:List (Nat×TV)) (H0:List TOb) (recs:List En) (e:En) (o:Oper):Prop where
 at_:l[e.i]? = some o
 dst:e.dst=o.dst
 free:memN e.i rs=false
 wk:e.wk=isLoad o.op
 n:e.n=(canH H0 recs).length
 lt:∀ e'∈recs,e'.i < e.i
 run:(Wn X.N l o (canS S0 recs) true∧e.xs=o.op.operands.toList.map (fun x=>hideV (zR tab e.i recs) (evT X.N (canS S0 recs) x))∧HvW o.op e.Hv (viewH (zA tab rs τ e.i recs) (canH H0 recs)) ∧
     ∃ δ,stpK X o.op (fun x=>hideV (zR tab e.i recs) (evT X.N (canS S0 recs) x)) e.Hv rt=some (δ,e.v)∧newsOf e.n δ=some e.news) ∨
   (Wn X.N l o (canS S0 recs) false∧e.v=.undef∧e.news=[]∧e.Hv=[]∧e.xs=[])
def Tr (X:Ctx Rf) (l:List Oper) (tab rs τ:List Nat) (S0:List (Nat×TV)) (H0:List TOb):List En→Prop
 | [] => True
 | e :: recs => Tr X l tab rs τ S0 H0 recs∧∃ o,EnOK X l tab rs τ S0 H0 recs e o
def Cov (l:List Oper) (rs:List Nat) (recs:List En) (m:Nat):Prop:=∀ j,j < m→j < l.length→memN j rs=false→∃ e∈recs,e.i=j
theorem Wn.ext {N:Nat} {l:List Oper} {o:Oper} {S S':List (Nat×TV)} {b:Bool} (h:∀ t,getS S t=getS S' t) (hw:Wn N l o S b):Wn N l o S' b:=by
 unfold Wn at hw ⊢
 cases hg:o.guard with
 | none => rw [hg] at hw; exact hw
 | some g =>
   rw [hg] at hw
   obtain ⟨d,h1,h2,h3⟩:=hw
   simp only []
   refine ⟨d,h1,h2,?_⟩
   rw [← h]
   exact h3
theorem qz4 {R:Type} {N:Nat} {all:List Oper} {o:Oper} {g:Nat×Bool} (hg:o.guard=some g) {S:List (Nat×TV)} {run skip:List (Nat×TV)→Option R} {r:R} (h:grdT N all g S run skip=some r) :
   ∃ S1,(∀ t,getS S1 t=getS S t)∧((Wn N all o S true∧run S1=some r)∨(Wn N all o S false∧skip S1=some r)):=by
 unfold grdT at h
 unfold Wn
 rw [hg]
 split at h
 · rename_i d hgd
   refine ⟨S,fun _=>rfl,.inr ⟨?_,h⟩⟩
   unfold guardT at hgd
   split at hgd
   · rename_i d' hd
     split at hgd
     · cases hgd
     · rename_i e
       cases hgd
       unfold rd at e
       cases hb:Nat.blt d N with
       | false => rw [hb] at e; cases e
       | true => rw [hb] at e; exact ⟨d,hd,blt_lt hb,.inr ⟨e,rfl⟩⟩
     · cases hgd
   · cases hgd
 · rename_i d b hgd
   have hd:dstAt all g.1=some d∧d < N∧getS S d=.bool b:=by
     unfold guardT at hgd
     split at hgd
     · rename_i d' hd
       split at hgd
       · rename_i b' e
         cases hgd
         unfold rd at e
         cases hb:Nat.blt d N with
         | false => rw [hb] at e; cases e
         | true => rw [hb] at e; exact ⟨hd,blt_lt hb,e⟩
       · cases hgd
       · cases hgd
     · cases hgd
   obtain ⟨h1,h2,h3⟩:=hd
   have hext:∀ b',b=b'→∀ t,getS ((d,TV.bool b')::S) t=getS S t:=by
     rintro b' rfl t
     rw [qke]
     split
     · rename_i e; rw [← e,h3]
     · rfl
   obtain ⟨g1,g2⟩:=g
   simp only [] at h h1 ⊢
   cases g2 with
   | true =>
     simp only [] at h
     cases b with
     | true => exact ⟨_,hext true rfl,.inl ⟨⟨d,h1,h2,.inl ⟨true,h3,rfl⟩⟩,h⟩⟩
     | false => exact ⟨_,hext false rfl,.inr ⟨⟨d,h1,h2,.inl ⟨false,h3,rfl⟩⟩,h⟩⟩
   | false =>
     simp only [] at h
     cases b with
     | true => exact ⟨_,hext true rfl,.inr ⟨⟨d,h1,h2,.inl ⟨true,h3,rfl⟩⟩,h⟩⟩
     | false => exact ⟨_,hext false rfl,.inl ⟨⟨d,h1,h2,.inl ⟨false,h3,rfl⟩⟩,h⟩⟩
 · cases h
end
end Go.K
namespace Go.K
open Go.M Go.RowKit
section
variable {R Rf:Type} {X:Ctx Rf} {l:List Oper} {tab rs τ:List Nat} {S0:List (Nat×TV)} {H0:List TOb}
theorem q1dz:∀ {l:List Bool},AllT l→allB l=true
 | [], _ => rfl
 | c :: l, h => by
   simp only [allB,Bool.and_eq_true]
   exact ⟨h c List.mem_cons_self,q1dz fun d hd=>h d (List.mem_cons_of_mem _ hd)⟩
theorem qqz {S S':List (Nat×TV)} (h:∀ t,getS S t=getS S' t) (d:Option Tmp) (v:TV) (t:Nat):getS (putT S d v) t=getS (putT S' d v) t:=by
 simp only [q5o,h]
theorem q1if {k:List (Nat×TV)→List TOb→List En→Option R} {r:R}:∀ (ops:List Oper) (i:Nat) (S:List (Nat×TV)) (recs:List En),l.drop i=ops→Tr X l tab rs τ S0 H0 recs→(∀ e∈recs,e.i < i)→Cov l rs recs i→(∀ t,getS S t=getS (canS S0 recs) t) →
   runA X l tab rs τ ops i S (canH H0 recs) recs k=some r→∃ recs' S',Tr X l tab rs τ S0 H0 recs'∧Cov l rs recs' l.length∧(∀ t,getS S' t=getS (canS S0 recs') t)∧k S' (canH H0 recs') recs'=some r:=by
 intro ops
 induction ops with
 | nil =>
   intro i S recs hd ht hlt hc hS h
   have hi:l.length≤i:=by
     have:=congrArg List.length hd
     simp at this
     omega
   exact ⟨recs,S,ht,fun j hj hj' hm=>hc j (by omega) hj' hm,hS,h⟩
 | cons o rest ih =>
   intro i S recs hd ht hlt hc hS h
   have hil:i < l.length:=by
     have:=congrArg List.length hd
     simp at this
     omega
   have hoi:l[i]? = some o:=by
     have:=List.drop_eq_getElem_cons hil
     rw [hd] at this
     rw [List.getElem?_eq_getElem hil]
     injection this with h1 h2
     rw [h1]
   have hdr:l.drop (i+1)=rest:=by
     have:=List.drop_eq_getElem_cons hil
     rw [hd] at this
     injection this with h1 h2
     exact h2.symm
   have hnext:∀ (e:En) S',e.i=i→Tr X l tab rs τ S0 H0 (e::recs)→(∀ t,getS S' t=getS (canS S0 (e::recs)) t)→runA X l tab rs τ rest (i+1) S' (canH H0 (e::recs)) (e::recs) k=some r →
       ∃ recs' S',Tr X l tab rs τ S0 H0 recs'∧Cov l rs recs' l.length∧(∀ t,getS S' t=getS (canS S0 recs') t)∧k S' (canH H0 recs') recs'=some r:=by
     intro e S' hei htr hS' hrun
     refine ih (i+1) S' (e::recs) hdr htr (fun e' he'=>?_) (fun j hj hjl hm=>?_) hS' hrun
     · rcases List.mem_cons.1 he' with rfl | he'
       · omega
       · have:=hlt e' he'; omega
     · by_cases e':j=i
       · exact ⟨e,List.mem_cons_self,by omega⟩
       · obtain ⟨e1,h1,h2⟩:=hc j (by omega) hjl hm
         exact ⟨e1,List.mem_cons_of_mem _ h1,h2⟩
   have hop:∀ S1,(∀ t,getS S1 t=getS (canS S0 recs) t)→memN i rs=false→Wn X.N l o (canS S0 recs) true→opA X tab rs τ i o S1 (canH H0 recs) recs (fun S' H' recs'=>runA X l tab rs τ rest (i+1) S' H' recs' k)=some r →
       ∃ recs' S',Tr X l tab rs τ S0 H0 recs'∧Cov l rs recs' l.length∧(∀ t,getS S' t=getS (canS S0 recs') t)∧k S' (canH H0 recs') recs'=some r:=by
     intro S1 hS1 hm hw hopA
     unfold opA at hopA
     rw [q1ew hS1] at hopA
     obtain ⟨δ,v,hk,hst⟩:=q1ai hopA
     split at hk
     · rename_i obs hobs
       refine hnext ⟨i,o.dst,o.op.operands.toList.map (fun x=>hideV (zR tab i recs) (evT X.N (canS S0 recs) x)),_,(canH H0 recs).length,obs,v,isLoad o.op⟩ _ rfl ⟨ht,o,hoi,rfl,hm,rfl,rfl,fun e' he'=>hlt e' he',.inl ⟨hw,rfl,hvA_w _ _ _ _,δ,hst,hobs⟩⟩ (qqz hS1 o.dst v) hk
     · cases hk
   unfold runA at h
   cases hm:memN i rs with
   | true =>
     rw [hm] at h
     exact ih (i+1) S recs hdr ht (fun e he=>by have:=hlt e he; omega) (fun j hj hjl hm'=>by
       by_cases e:j=i
       · subst e; rw [hm] at hm'; cases hm'
       · exact hc j (by omega) hjl hm') hS h
   | false =>
     rw [hm] at h
     simp only [cond_false] at h
     split at h
     · rename_i hg
       exact hop S hS hm (by unfold Wn; rw [hg]) h
     · rename_i g hg
       obtain ⟨S1,hext,hcase⟩:=qz4 hg h
       have hS1:∀ t,getS S1 t=getS (canS S0 recs) t:=fun t=>(hext t).trans (hS t)
       rcases hcase with ⟨hw,hrun⟩ | ⟨hw,hrun⟩
       · exact hop S1 hS1 hm (hw.ext hS) hrun
       · refine hnext ⟨i,o.dst,[],[],(canH H0 recs).length,[],.undef,isLoad o.op⟩ _ rfl ⟨ht,o,hoi,rfl,hm,rfl,rfl,fun e' he'=>hlt e' he',.inr ⟨hw.ext hS,rfl,rfl,rfl,rfl⟩⟩ (qqz hS1 o.dst .undef) ?_
         simp only [canH,List.append_nil]
         exact hrun
structure RE where
 i:Nat
 dst:Option Tmp
 δ:List St
 v:TV
def canR (s:TS):List RE→TS
 | [] => s
 | e :: l => ((canR s l).aps e.δ).put e.dst e.v
structure REOK (X:Ctx Rf) (l:List Oper) (tab rs:List Nat) (recs:List En) (s:TS) (rest:List RE) (e:RE) (o:Oper):Prop where
 at_:l[e.i]? = some o
 dst:e.dst=o.dst
 wr:memN e.i rs=true
 lt:∀ e'∈rest,e'.i < e.i
 run:(Wn X.N l o (canR s rest).S true∧stpK X o.op (fun x=>hideV (zR tab e.i recs) (evT X.N (canR s rest).S x)) (viewH (zR tab e.i recs) (canR s rest).H) rt=some (e.δ,e.v)∧okAll tab e.i e.δ recs=true) ∨
   (Wn X.N l o (canR s rest).S false∧e.δ=[]∧e.v=.undef)
def TrR (X:Ctx Rf) (l:List Oper) (tab rs:List Nat) (recs:List En) (s:TS):List RE→Prop
 | [] => True
 | e :: rest => TrR X l tab rs recs s rest∧∃ o,REOK X l tab rs recs s rest e o
def CovR (l:List Oper) (rs:List Nat) (res:List RE) (m:Nat):Prop:=∀ j,j < m→j < l.length→memN j rs=true→∃ e∈res,e.i=j
theorem q1id {recs:List En} {s0:TS} {k:TS→Option R} {r:R}:∀ (ops:List Oper) (i:Nat) (s:TS) (res:List RE),l.drop i=ops→TrR X l tab rs recs s0 res→(∀ e∈res,e.i < i)→CovR l rs res i→Ext s (canR s0 res) →
   runR X l tab rs recs ops i s k=some r→∃ res' s',TrR X l tab rs recs s0 res'∧CovR l rs res' l.length∧Ext s' (canR s0 res')∧k s'=some r:=by
 intro ops
 induction ops with
 | nil =>
   intro i s res hd ht hlt hc hS h
   have hi:l.length≤i:=by
     have:=congrArg List.length hd
     simp at this
     omega
   exact ⟨res,s,ht,fun j hj hj' hm=>hc j (by omega) hj' hm,hS,h⟩
 | cons o rest ih =>
   intro i s res hd ht hlt hc hS h
   have hil:i < l.length:=by
     have:=congrArg List.length hd
     simp at this
     omega
   have hoi:l[i]? = some o:=by
     have:=List.drop_eq_getElem_cons hil
     rw [hd] at this
     rw [List.getElem?_eq_getElem hil]
     injection this with h1 h2
     rw [h1]
   have hdr:l.drop (i+1)=rest:=by
     have:=List.drop_eq_getElem_cons hil
     rw [hd] at this
     injection this with h1 h2
     exact h2.symm
   have hnext:∀ (e:RE) s',e.i=i→TrR X l tab rs recs s0 (e::res)→Ext s' (canR s0 (e::res))→runR X l tab rs recs rest (i+1) s' k=some r →
       ∃ res' s',TrR X l tab rs recs s0 res'∧CovR l rs res' l.length∧Ext s' (canR s0 res')∧k s'=some r:=by
     intro e s' hei htr hS' hrun
     refine ih (i+1) s' (e::res) hdr htr (fun e' he'=>?_) (fun j hj hjl hm=>?_) hS' hrun
     · rcases List.mem_cons.1 he' with rfl | he'
       · omega
       · have:=hlt e' he'; omega
     · by_cases e':j=i
       · exact ⟨e,List.mem_cons_self,by omega⟩
       · obtain ⟨e1,h1,h2⟩:=hc j (by omega) hjl hm
         exact ⟨e1,List.mem_cons_of_mem _ h1,h2⟩
   have hop:∀ s1,Ext s1 (canR s0 res)→memN i rs=true→Wn X.N l o (canR s0 res).S true→opR X tab recs i o s1 (fun s'=>runR X l tab rs recs rest (i+1) s' k)=some r →
       ∃ res' s',TrR X l tab rs recs s0 res'∧CovR l rs res' l.length∧Ext s' (canR s0 res')∧k s'=some r:=by
     intro s1 hS1 hm hw hopR
     unfold opR at hopR
     rw [q1ew hS1.S,hS1.H] at hopR
     obtain ⟨δ,v,hk,hst⟩:=q1ai hopR
     split at hk
     · rename_i cs hcs
       obtain ⟨hok,hk⟩:=qv hk
       exact hnext ⟨i,o.dst,δ,v⟩ _ rfl ⟨ht,o,hoi,rfl,hm,fun e' he'=>hlt e' he',.inl ⟨hw,hst,q12b hcs (q1dz hok)⟩⟩ ((hS1.aps δ).put o.dst v) hk
     · cases hk
   unfold runR at h
   cases hm:memN i rs with
   | false =>
     rw [hm] at h
     exact ih (i+1) s res hdr ht (fun e he=>by have:=hlt e he; omega) (fun j hj hjl hm'=>by
       by_cases e:j=i
       · subst e; rw [hm] at hm'; cases hm'
       · exact hc j (by omega) hjl hm') hS h
   | true =>
     rw [hm] at h
     simp only [cond_true] at h
     split at h
     · rename_i hg
       exact hop s hS hm (by unfold Wn; rw [hg]) h
     · rename_i g hg
       obtain ⟨S1,hext,hcase⟩:=qz4 hg h
       have hS1:Ext ⟨S1,s.H⟩ (canR s0 res):=⟨hS.H,fun t=>(hext t).trans (hS.S t)⟩
       rcases hcase with ⟨hw,hrun⟩ | ⟨hw,hrun⟩
       · exact hop _ hS1 hm (hw.ext hS.S) hrun
       · exact hnext ⟨i,o.dst,[],.undef⟩ _ rfl ⟨ht,o,hoi,rfl,hm,fun e' he'=>hlt e' he',.inr ⟨hw.ext hS.S,rfl,rfl⟩⟩ (hS1.put o.dst .undef) hrun
def stA (S0:List (Nat×TV)) (H0:List TOb) (D:Nat→Bool):List En→TS
 | [] => ⟨S0,H0⟩
 | e :: l => if D e.i=true then ⟨putT (stA S0 H0 D l).S e.dst e.v,(stA S0 H0 D l).H++e.news⟩ else ⟨(stA S0 H0 D l).S,(stA S0 H0 D l).H++List.replicate e.news.length .gone⟩
def stR (D:Nat→Bool) (s:TS):List RE→TS
 | [] => s
 | e :: l => if D e.i=true then ((stR D s l).aps e.δ).put e.dst e.v else stR D s l
theorem qlh (D:Nat→Bool):∀ (recs:List En),(stA S0 H0 D recs).H.length=(canH H0 recs).length
 | [] => rfl
 | e :: l => by
   unfold stA canH
   split<;>simp [qlh D l]
theorem q15l {D:Nat→Bool} {t:Nat}:∀ {recs:List En},(∀ e∈recs,e.dst=some t→D e.i=true)→getS (stA S0 H0 D recs).S t=getS (canS S0 recs) t
 | [], _ => rfl
 | e :: l, h => by
   have ih:=q15l (D:=D) (t:=t) (recs:=l) fun e' he'=>h e' (List.mem_cons_of_mem _ he')
   unfold stA canS
   split
   · simp only [q5o,ih]
   · rename_i hd
     have:e.dst≠some t:=fun e'=>hd (h e List.mem_cons_self e')
     simp only [q5o,if_neg this,ih]
theorem Tr.bnd:∀ {recs:List En},Tr X l tab rs τ S0 H0 recs→∀ e∈recs,H0.length≤e.n∧e.n+e.news.length≤(canH H0 recs).length
 | [], _, e, h => by simp at h
 | e' :: recs, ht, e, h => by
   obtain ⟨ht,o,he⟩:=ht
   have hle:H0.length≤(canH H0 recs).length:=by
     clear ht he h
     induction recs with
     | nil => exact Nat.le_refl _
     | cons a m ih => simp only [canH,List.length_append]; omega
   rcases List.mem_cons.1 h with rfl | h
   · rw [he.n]
     simp only [canH,List.length_append]
     omega
   · have:=Tr.bnd ht e h
     simp only [canH,List.length_append]
     omega
theorem stA_at {D:Nat→Bool} {t:Nat}:∀ {recs:List En},Tr X l tab rs τ S0 H0 recs→(∀ e∈recs,e.n≤t→t < e.n+e.news.length→D e.i=true)→(stA S0 H0 D recs).H[t]? = (canH H0 recs)[t]?
 | [], _, _ => rfl
 | e :: recs, ht, h => by
   obtain ⟨ht,o,he⟩:=ht
   have ih:=stA_at (D:=D) (t:=t) ht fun e' he'=>h e' (List.mem_cons_of_mem _ he')
   have hl:=qlh (S0:=S0) (H0:=H0) D recs
   unfold stA canH
   split
   · simp only [List.getElem?_append,hl,ih]
   · rename_i hd
     rcases Nat.lt_or_ge t (canH H0 recs).length with h1 | h1
     · rw [List.getElem?_append_left (by omega),List.getElem?_append_left h1,ih]
     · have:¬ t < e.n+e.news.length:=fun h2=>hd (h e List.mem_cons_self (by rw [he.n]; exact h1) h2)
       rw [he.n] at this
       rw [List.getElem?_eq_none (by simp; omega),List.getElem?_eq_none (by simp; omega)]
theorem q1c0 {D:Nat→Bool} {t:Nat}:∀ {recs:List En},Tr X l tab rs τ S0 H0 recs→∀ e∈recs,D e.i=false→e.n≤t→t < e.n+e.news.length→(stA S0 H0 D recs).H[t]? = some .gone
 | [], _, e, h, _, _, _ => by simp at h
 | e' :: recs, ht, e, h, hD, h1, h2 => by
   obtain ⟨ht,o,he⟩:=ht
   have hl:=qlh (S0:=S0) (H0:=H0) D recs
   rcases List.mem_cons.1 h with rfl | h
   · unfold stA
     rw [if_neg (by simp [hD])]
     simp only []
     rw [List.getElem?_append_right (by rw [hl,← he.n]; exact h1),List.getElem?_replicate,if_pos (by rw [hl,← he.n]; omega)]
   · have ih:=q1c0 (D:=D) (t:=t) ht e h hD h1 h2
     have hb:=(Tr.bnd ht e h).2
     unfold stA
     split<;>(simp only []; rw [List.getElem?_append_left (by omega)]; exact ih)
end
end Go.K
namespace Go.K
open Go.M Go.RowKit
section
variable {R Rf:Type} {X:Ctx Rf} {l:List Oper} {tab rs τ:List Nat} {S0:List (Nat×TV)} {H0:List TOb}
def apE (e:En) (s:TS):TS:=⟨putT s.S e.dst e.v,setPl e.n e.news s.H⟩
theorem Ext.apE {s s':TS} (h:Ext s s') (e:En):Ext (apE e s) (apE e s'):=⟨by simp only [Go.K.apE,h.H],qqz h.S e.dst e.v⟩
theorem q12c {n:Nat} {news H Y:List TOb} (h:n+news.length≤H.length):setPl n news (H++Y)=setPl n news H++Y:=by
 apply List.ext_getElem?
 intro t
 rw [qfh _ _ _ (by simp; omega)]
 rcases Nat.lt_or_ge t H.length with h1 | h1
 · rw [List.getElem?_append_left h1,List.getElem?_append_left (by rw [qfs]; exact h1),qfh _ _ _ h]
 · rw [if_neg (by omega),List.getElem?_append_right h1,List.getElem?_append_right (by rw [qfs]; exact h1),qfs]
theorem q1fw {news H:List TOb}:setPl H.length news (H++List.replicate news.length .gone)=H++news:=by
 apply List.ext_getElem?
 intro t
 rw [qfh _ _ _ (by simp)]
 rcases Nat.lt_or_ge t H.length with h1 | h1
 · rw [if_neg (by omega),List.getElem?_append_left h1,List.getElem?_append_left h1]
 · rw [List.getElem?_append_right h1,List.getElem?_append_right h1,List.getElem?_replicate]
   by_cases h2:t < H.length+news.length
   · rw [if_pos ⟨h1,h2⟩]
   · rw [if_neg (by omega),if_neg (by omega),List.getElem?_eq_none (by omega)]
theorem q12f {D D':Nat→Bool}:∀ {recs:List En},(∀ e∈recs,D e.i=D' e.i)→stA S0 H0 D recs=stA S0 H0 D' recs
 | [], _ => rfl
 | e :: m, h => by
   unfold stA
   rw [h e List.mem_cons_self,q12f fun e' he'=>h e' (List.mem_cons_of_mem _ he')]
theorem qpn {D:Nat→Bool} {i k:Nat} (h:k≠i):done1 D i k=D k:=by simp [done1,h]
theorem q1ca {D:Nat→Bool} {i:Nat}:done1 D i i=true:=by simp [done1]
theorem q1eo {D:Nat→Bool}:∀ {recs:List En},Tr X l tab rs τ S0 H0 recs→∀ e∈recs,D e.i=false→(∀ e'∈recs,e.i < e'.i→D e'.i=true→∀ d,e'.dst=some d→e.dst≠some d)→Ext (stA S0 H0 (done1 D e.i) recs) (apE e (stA S0 H0 D recs))
 | [], _, e, h, _, _ => by simp at h
 | e1 :: recs, ht, e, h, hD, hdst => by
   obtain ⟨ht,o,he⟩:=ht
   rcases List.mem_cons.1 h with rfl | h
   · have hc:stA S0 H0 (done1 D e.i) recs=stA S0 H0 D recs:=q12f fun e' he'=>qpn (by have:=he.lt e' he'; omega)
     unfold stA
     rw [if_pos q1ca,if_neg (by simp [hD]),hc]
     refine ⟨?_,fun t=>rfl⟩
     simp only [apE]
     have hn:e.n=(stA S0 H0 D recs).H.length:=by rw [qlh,he.n]
     rw [hn,q1fw]
   · have hlt:=he.lt e h
     have ih:=q1eo ht e h hD fun e' he'=>hdst e' (List.mem_cons_of_mem _ he')
     have hb:=(Tr.bnd ht e h).2
     have hl:=qlh (S0:=S0) (H0:=H0) D recs
     have e0:done1 D e.i e1.i=D e1.i:=qpn (by omega)
     unfold stA
     rw [e0]
     split
     · rename_i hD1
       refine ⟨?_,fun t=>?_⟩
       · simp only [apE]
         rw [ih.H,q12c (by omega)]
         rfl
       · simp only [apE,q5o,ih.S]
         by_cases h1:e1.dst=some t
         · have:=hdst e1 List.mem_cons_self hlt hD1 t h1
           rw [if_pos h1,if_neg this,if_pos h1]
         · rw [if_neg h1,if_neg h1]
     · refine ⟨?_,fun t=>?_⟩
       · simp only [apE]
         rw [ih.H,q12c (by omega)]
         rfl
       · simp only [apE,ih.S]
theorem q1a6 {n t:Nat} {news H:List TOb} {o:TOb} (hb:n+news.length≤H.length) (ht:t < n∨n+news.length≤t):(setPl n news H).set t o=setPl n news (H.set t o):=by
 apply List.ext_getElem?
 intro t'
 rw [qfh _ _ _ (by rw [List.length_set]; exact hb)]
 by_cases h1:t=t'
 · subst h1
   rw [if_neg (by omega)]
   rcases Nat.lt_or_ge t H.length with h2 | h2
   · rw [List.getElem?_set_self (by rw [qfs]; exact h2),List.getElem?_set_self h2]
   · rw [List.getElem?_eq_none (by rw [List.length_set,qfs]; exact h2),List.getElem?_eq_none (by rw [List.length_set]; exact h2)]
 · rw [List.getElem?_set_ne h1,List.getElem?_set_ne h1,qfh _ _ _ hb]
theorem apE_ap {e:En} {s:TS} {x:St} (hok:okStep e x=true) (hb:e.n+e.news.length≤s.H.length):Ext ((apE e s).ap x) (apE e (s.ap x))∧e.n+e.news.length≤(s.ap x).H.length:=by
 cases x with
 | sb θ =>
   simp only [okStep,Bool.and_eq_true] at hok
   obtain ⟨⟨⟨_,_⟩,h3⟩,h4⟩:=hok
   refine ⟨⟨?_,fun t=>?_⟩,by simp only [TS.ap,hAp,q11]; exact hb⟩
   · simp only [TS.ap,hAp,apE]
     apply List.ext_getElem?
     intro t
     rw [sbH_at,qfh _ _ _ hb,qfh _ _ _ (by rw [q11]; exact hb)]
     split
     · rw [← sbH_at,q1ek _ h3]
     · rw [sbH_at]
   · simp only [TS.ap,sAp,apE,q1r,q5o]
     split
     · exact sb_all _ h4
     · rfl
 | set t o =>
   simp only [okStep,Bool.and_eq_true,Bool.or_eq_true] at hok
   have ht:t < e.n∨e.n+e.news.length≤t:=hok.1.imp blt_lt ble_le
   refine ⟨⟨?_,fun t=>rfl⟩,by simp only [TS.ap,hAp,List.length_set]; exact hb⟩
   simp only [TS.ap,hAp,apE]
   exact q1a6 hb ht
 | new t o =>
   simp only [okStep,Bool.and_eq_true] at hok
   have ht:=ble_le hok.1
   simp only [TS.ap,hAp,hNew,apE,qfs]
   cases hblt:Nat.blt t s.H.length with
   | true =>
     simp only [cond_true]
     refine ⟨⟨?_,fun t=>rfl⟩,by rw [List.length_set]; exact hb⟩
     exact q1a6 hb (.inr ht)
   | false =>
     simp only [cond_false]
     refine ⟨⟨?_,fun t=>rfl⟩,by rw [List.length_append]; omega⟩
     simp only []
     rw [q12c hb]
theorem q1ep {e:En}:∀ {δ:List St} {s:TS},q7b e δ=true→e.n+e.news.length≤s.H.length→Ext ((apE e s).aps δ) (apE e (s.aps δ))∧e.n+e.news.length≤(s.aps δ).H.length
 | [], s, _, hb => ⟨Ext.refl _,hb⟩
 | x :: δ, s, hok, hb => by
   simp only [q7b,Bool.and_eq_true] at hok
   obtain ⟨h1,h2⟩:=apE_ap hok.1 hb
   obtain ⟨h3,h4⟩:=q1ep hok.2 h2
   exact ⟨(h1.aps δ).trans h3,h4⟩
theorem q1il {e:En} {s:TS} {d:Option Tmp} {v:TV} (h:∀ t,d=some t→e.dst≠some t):Ext ((apE e s).put d v) (apE e (s.put d v)):=by
 rw [qdb,qdb]
 refine ⟨rfl,fun t=>?_⟩
 simp only [apE,q5o]
 by_cases h1:d=some t
 · rw [if_pos h1,if_neg (h t h1),if_pos h1]
 · rw [if_neg h1,if_neg h1]
theorem put_H (s:TS) (d:Option Tmp) (v:TV):(s.put d v).H=s.H:=by cases d<;>rfl
theorem q1dy {e:En} {D D':Nat→Bool} {s s':TS} (hb:e.n+e.news.length≤s.H.length) (he:Ext s' (apE e s)):∀ {res:List RE},(∀ re∈res,D' re.i=D re.i)→(∀ re∈res,D re.i=true→q7b e re.δ=true∧∀ t,re.dst=some t→e.dst≠some t) →
   Ext (stR D' s' res) (apE e (stR D s res))∧e.n+e.news.length≤(stR D s res).H.length
 | [], _, _ => ⟨he,hb⟩
 | re :: res, hD, h => by
   obtain ⟨h1,h2⟩:=q1dy hb he (res:=res) (fun r hr=>hD r (List.mem_cons_of_mem _ hr)) (fun r hr=>h r (List.mem_cons_of_mem _ hr))
   unfold stR
   rw [hD re List.mem_cons_self]
   split
   · rename_i hd
     obtain ⟨h3,h4⟩:=h re List.mem_cons_self hd
     obtain ⟨h5,h6⟩:=q1ep h3 h2
     refine ⟨(((h1.aps re.δ).trans h5).put re.dst re.v).trans (q1il h4),by rw [put_H]; exact h6⟩
   · exact ⟨h1,h2⟩
theorem CsW.sb {ob ob':TOb} {θ:TG→Ac} (h:CsW ob ob') (ha:ob.all (fun T=>(θ T).isId)=true):CsW ob (ob'.sb θ):=by
 obtain ⟨ty,sz,n,cs,rfl,h0,⟨cs',rfl,hc⟩ | ⟨md,its,u,xs,rfl,e1,e2,hc⟩⟩:=h
 · refine ⟨ty,sz,n,cs,rfl,h0,.inl ⟨_,rfl,fun i=>?_⟩⟩
   rcases hc i with e | e
   · exact .inl e
   · refine .inr ?_
     have e3:TV.sbL θ cs=cs:=qsi cs ha
     rw [TV.sbL_at,← e,← TV.sbL_at,e3]
 · exact ⟨ty,sz,n,cs,rfl,h0,.inr ⟨md,its,u,xs,rfl,e1,e2,hc⟩⟩
theorem q1hr {v v':TV} {l:List Bool} (h:cellC v v'=some l) (hl:allB l=true):v=.any∨v=v':=by
 unfold cellC at h
 split at h
 · exact .inl rfl
 · split at h
   · rename_i e
     cases h
     subst e
     simp only [allB,Bool.and_true,decide_eq_true_eq] at hl
     exact .inr (by rw [hl])
   · cases h
 · cases h
   simp only [allB,Bool.and_true,beq_iff_eq] at hl
   exact .inr (by rw [hl])
 · obtain ⟨h1,_⟩:=q4 h
   exact .inr (by rw [beq_eq h1])
 · cases h
theorem q110:∀ {cs cs':List TV} {l:List Bool},cellsC cs cs'=some l→allB l=true→∀ i,cs.getD i .any=.any∨cs.getD i .any=cs'.getD i .any
 | [], _, _, _, _, i => .inl rfl
 | v :: cs, [], l, h, hl, i => by
   simp only [cellsC] at h
   split at h
   · cases i with
     | zero => exact .inl rfl
     | succ i => exact q110 (cs:=cs) (cs':=[]) h hl i
   · cases h
 | v :: cs, v' :: cs', l, h, hl, i => by
   simp only [cellsC] at h
   split at h
   · rename_i a ha
     split at h
     · rename_i b hb
       cases h
       obtain ⟨h1,h2⟩:=qyu hl
       cases i with
       | zero => exact q1hr ha h1
       | succ i => exact q110 hb h2 i
     · cases h
   · cases h
theorem q1e2:∀ {cs:List TV},anyL cs=true→∀ i,cs.getD i .any=.any
 | [], _, i => rfl
 | .any :: cs, h, 0 => rfl
 | .any :: cs, h, i + 1 => q1e2 (cs:=cs) h i
 | .int _ _ :: _, h, _ => by cases h
 | .bool _ :: _, h, _ => by cases h
 | .val _ :: _, h, _ => by cases h
 | .e0 :: _, h, _ => by cases h
 | .sl _ _ _ :: _, h, _ => by cases h
 | .rptr _ _ _ _ _ :: _, h, _ => by cases h
 | .own _ :: _, h, _ => by cases h
 | .ownS _ _ _ :: _, h, _ => by cases h
 | .ptr _ _ _ :: _, h, _ => by cases h
 | .mp _ :: _, h, _ => by cases h
 | .fn _ _ :: _, h, _ => by cases h
 | .agg _ :: _, h, _ => by cases h
 | .tup _ :: _, h, _ => by cases h
 | .cond _ _ :: _, h, _ => by cases h
 | .nl _ _ :: _, h, _ => by cases h
theorem q1hm {wk:Bool} {ob o:TOb} (h:seenB wk ob o=true):ob=.gone∨(wk=true∧CsW ob o):=by
 unfold seenB at h
 split at h
 · rename_i l hl
   unfold seenC at hl
   split at hl
   · exact .inl rfl
   · rename_i ty sz n cs
     have h1:=(q4 hl).1
     replace hl:=(q4 hl).2
     simp only [Bool.and_eq_true] at h1
     refine .inr ⟨h1.1,?_⟩
     split at hl
     · rename_i ty' sz' n' cs'
       have h2:=(q4 hl).1
       replace hl:=(q4 hl).2
       simp only [Bool.and_eq_true] at h2
       have e1:=beq_eq h2.1.1; have e2:=beq_eq h2.1.2; have e3:=beq_eq h2.2
       subst e1 e2 e3
       exact ⟨_,_,_,_,rfl,blt_lt h1.2,.inl ⟨_,rfl,q110 hl h⟩⟩
     · rename_i ty' md its u xs
       have h2:=(q4 hl).1
       replace hl:=(q4 hl).2
       simp only [Bool.and_eq_true] at h2
       have e1:=beq_eq h2.1.1; have e2:=beq_eq h2.1.2
       subst e1 e2
       cases hl
       simp only [allB,Bool.and_true,decide_eq_true_eq] at h
       exact ⟨_,_,_,_,rfl,blt_lt h1.2,.inr ⟨_,_,_,_,rfl,rfl,h.symm,q1e2 h2.2⟩⟩
     · cases hl
   · cases hl
 · cases h
structure Seen (N:Nat) (l:List Oper) (e:En) (o:Oper) (ex:Operand→TV) (b:Bool) (s:TS):Prop where
 hv:∀ (t:Nat) (ob:TOb),e.Hv[t]? = some ob→ob=.gone∨s.H[t]? = some ob∨(isLoad o.op=true∧∃ ob',s.H[t]? = some ob'∧CsW ob ob')
 xs:b=true→∀ x∈o.op.operands,Wk (evT N s.S x) (ex x)
 gd:Wn N l o s.S b
 fr:∀ t:Nat,e.n≤t→t < e.n+e.news.length→s.H[t]? = some TOb.gone
theorem Wk_ev {N:Nat} {S:List (Nat×TV)} {θ:TG→Ac} {x:Operand} {B:TV} (h:Wk (evT N S x) B) (ha:B.all (fun T=>(θ T).isId)=true):Wk (evT N (sbS θ S) x) B:=by
 cases x with
 | tmp t =>
   simp only [evT,rd] at h ⊢
   cases hb:Nat.blt t N with
   | false => rw [hb] at h; exact h
   | true =>
     rw [hb] at h
     simp only [cond_true] at h ⊢
     rw [q1r]
     exact Wk.sb _ _ h ha
 | _ => exact h
theorem Wn.sb {N:Nat} {l:List Oper} {o:Oper} {S:List (Nat×TV)} {b:Bool} (θ:TG→Ac) (h:Wn N l o S b):Wn N l o (sbS θ S) b:=by
 unfold Wn at h ⊢
 cases hg:o.guard with
 | none => rw [hg] at h; exact h
 | some g =>
   rw [hg] at h
   obtain ⟨d,h1,h2,h3⟩:=h
   simp only []
   refine ⟨d,h1,h2,?_⟩
   rw [q1r]
   rcases h3 with ⟨c,e,h4⟩ | ⟨e,h4⟩
   · exact .inl ⟨c,by rw [e]; rfl,h4⟩
   · exact .inr ⟨by rw [e]; rfl,h4⟩
theorem Seen.ap {N:Nat} {e:En} {o:Oper} {ex:Operand→TV} {b:Bool} {s:TS} (h:Seen N l e o ex b s) (hwk:e.wk=isLoad o.op) (hxs:b=true→e.xs=o.op.operands.toList.map ex) {x:St} (hok:okStep e x=true):Seen N l e o ex b (s.ap x):=by
 cases x with
 | sb θ =>
   simp only [okStep,Bool.and_eq_true] at hok
   obtain ⟨⟨⟨h1,h2⟩,h3⟩,h4⟩:=hok
   refine ⟨fun t ob ho=>?_,fun hb x hx=>?_,h.gd.sb θ,fun t t1 t2=>?_⟩
   · rcases h.hv t ob ho with e1 | e1 | ⟨hl,ob',e1,hc⟩
     · exact .inl e1
     · refine .inr (.inl ?_)
       simp only [TS.ap,hAp,sbH_at,e1,Option.map_some]
       rw [q1eb ob (q19p h2 t ob ho)]
     · refine .inr (.inr ⟨hl,ob'.sb θ,?_,hc.sb (q19p h2 t ob ho)⟩)
       simp only [TS.ap,hAp,sbH_at,e1,Option.map_some]
   · refine Wk_ev (h.xs hb x hx) ?_
     rw [hxs hb] at h1
     have:∀ {l:List TV} {p:TG→Bool},TV.allL p l=true→∀ A∈l,A.all p=true:=by
       intro l p
       induction l with
       | nil => intro _ A hA; simp at hA
       | cons B l ih =>
         intro ha A hA
         simp only [TV.allL,Bool.and_eq_true] at ha
         rcases List.mem_cons.1 hA with rfl | hA
         · exact ha.1
         · exact ih ha.2 A hA
     exact this h1 _ (List.mem_map.2 ⟨x,by simpa using hx,rfl⟩)
   · simp only [TS.ap,hAp,sbH_at,h.fr t t1 t2]
     rfl
 | set t' o' =>
   simp only [okStep,Bool.and_eq_true,Bool.or_eq_true] at hok
   have ht:t' < e.n∨e.n+e.news.length≤t':=hok.1.imp blt_lt ble_le
   refine ⟨fun t ob ho=>?_,h.xs,h.gd,fun t t1 t2=>?_⟩
   · have key:∀ ob0,s.H[t]? = some ob0→t'=t→ob=.gone∨(s.ap (.set t' o')).H[t]? = some ob∨(isLoad o.op=true∧∃ ob',(s.ap (.set t' o')).H[t]? = some ob'∧CsW ob ob'):=by
       intro ob0 h0 e2
       subst e2
       have h2:=hok.2
       rw [List.getD_eq_getElem?_getD,ho,Option.getD_some] at h2
       rcases q1hm h2 with e3 | ⟨e3,e4⟩
       · exact .inl e3
       · refine .inr (.inr ⟨by rw [← hwk]; exact e3,o',?_,e4⟩)
         simp only [TS.ap,hAp]
         exact List.getElem?_set_self (List.getElem?_eq_some_iff.1 h0).1
     rcases h.hv t ob ho with e1 | e1 | ⟨hl,ob',e1,hc⟩
     · exact .inl e1
     · by_cases e2:t'=t
       · exact key _ e1 e2
       · refine .inr (.inl ?_)
         simp only [TS.ap,hAp,List.getElem?_set_ne e2]
         exact e1
     · by_cases e2:t'=t
       · exact key _ e1 e2
       · refine .inr (.inr ⟨hl,ob',?_,hc⟩)
         simp only [TS.ap,hAp,List.getElem?_set_ne e2]
         exact e1
   · simp only [TS.ap,hAp]
     rw [List.getElem?_set_ne (by omega)]
     exact h.fr t t1 t2
 | new t' o' =>
   simp only [okStep,Bool.and_eq_true] at hok
   have ht:=ble_le hok.1
   have ht2:=ble_le hok.2
   have key:∀ t ob,t≠t'→s.H[t]? = some ob→(hNew s.H t' o')[t]? = some ob:=by
     intro t ob hne hs
     unfold hNew
     cases Nat.blt t' s.H.length with
     | true => simp only [cond_true]; rw [List.getElem?_set_ne (Ne.symm hne)]; exact hs
     | false => simp only [cond_false]; rw [List.getElem?_append_left (List.getElem?_eq_some_iff.1 hs).1]; exact hs
   refine ⟨fun t ob ho=>?_,h.xs,h.gd,fun t t1 t2=>key t _ (by omega) (h.fr t t1 t2)⟩
   have:t < e.Hv.length:=(List.getElem?_eq_some_iff.1 ho).1
   rcases h.hv t ob ho with e1 | e1 | ⟨hl,ob',e1,hc⟩
   · exact .inl e1
   · exact .inr (.inl (key t ob (by omega) e1))
   · exact .inr (.inr ⟨hl,ob',key t ob' (by omega) e1,hc⟩)
theorem Seen.aps {N:Nat} {e:En} {o:Oper} {ex:Operand→TV} {b:Bool} (hwk:e.wk=isLoad o.op) (hxs:b=true→e.xs=o.op.operands.toList.map ex):∀ {δ:List St} {s:TS},Seen N l e o ex b s→q7b e δ=true→Seen N l e o ex b (s.aps δ)
 | [], s, h, _ => h
 | x :: δ, s, h, hok => by
   simp only [q7b,Bool.and_eq_true] at hok
   exact Seen.aps hwk hxs (δ:=δ) (s:=s.ap x) (h.ap hwk hxs hok.1) hok.2
theorem ev_put {N:Nat} {S:List (Nat×TV)} {d:Option Tmp} {v:TV} {x:Operand} (h:∀ t,x=.tmp t→d≠some t):evT N (putT S d v) x=evT N S x:=by
 cases x with
 | tmp t => simp only [evT,rd,q5o,if_neg (h t rfl)]
 | _ => rfl
theorem usN_op {l:List Oper} {o:Oper} {t:Nat} (h:Operand.tmp t∈o.op.operands):t∈usN l o :=
 List.mem_append.2 (.inl (List.mem_filterMap.2 ⟨.tmp t,by simpa using h,rfl⟩))
theorem usN_gd {l:List Oper} {o:Oper} {g:Nat×Bool} {d:Nat} (hg:o.guard=some g) (hd:dstAt l g.1=some d):d∈usN l o:=by
 refine List.mem_append.2 (.inr ?_)
 rw [hg]
 simp only [hd]
 simp
theorem Wn.slots {N:Nat} {l:List Oper} {o:Oper} {S S':List (Nat×TV)} {b:Bool} (h:∀ t∈usN l o,getS S t=getS S' t) (hw:Wn N l o S b):Wn N l o S' b:=by
 unfold Wn at hw ⊢
 cases hg:o.guard with
 | none => rw [hg] at hw; exact hw
 | some g =>
   rw [hg] at hw
   obtain ⟨d,h1,h2,h3⟩:=hw
   simp only []
   refine ⟨d,h1,h2,?_⟩
   rw [← h d (usN_gd hg h1)]
   exact h3
theorem Seen.put {N:Nat} {e:En} {o:Oper} {ex:Operand→TV} {b:Bool} {s:TS} (h:Seen N l e o ex b s) {d:Option Tmp} {v:TV} (hd:∀ t,d=some t→t∉usN l o):Seen N l e o ex b (s.put d v):=by
 rw [qdb]
 refine ⟨h.hv,fun hb x hx=>?_,h.gd.slots fun t ht=>?_,h.fr⟩
 · rw [ev_put (fun t e1 e2=>hd t e2 (usN_op (by rw [← e1]; exact hx)))]
   exact h.xs hb x hx
 · rw [q5o,if_neg fun e2=>hd t e2 ht]
theorem q160 {N:Nat} {e:En} {o:Oper} {ex:Operand→TV} {b:Bool} (hwk:e.wk=isLoad o.op) (hxs:b=true→e.xs=o.op.operands.toList.map ex) {D:Nat→Bool} {s:TS} (hg:Seen N l e o ex b s):∀ {res:List RE},(∀ re∈res,D re.i=true→q7b e re.δ=true∧∀ t,re.dst=some t→t∉usN l o)→Seen N l e o ex b (stR D s res)
 | [], _ => hg
 | re :: res, h => by
   have ih:=q160 hwk hxs hg (res:=res) fun r hr=>h r (List.mem_cons_of_mem _ hr)
   unfold stR
   split
   · rename_i hd
     obtain ⟨h1,h2⟩:=h re List.mem_cons_self hd
     exact (Seen.aps hwk hxs ih h1).put h2
   · exact ih
end
end Go.K
namespace Go.K
open Go.M Go.RowKit
section
variable {U:Nat→Prop} {w0:World} {σ0:Pl} {K:Nat→Bool} {N:Nat} {P:Program}
theorem Rel.heapEq {s:TS} {a:Act} {w w':World} {σ:Pl} (h:Rel U w0 σ0 K N s a w σ) (h1:w'.heap=w.heap) (h2:w'.os=w.os) (h3:w'.tape=w.tape) (h4:w'.output=w.output):Rel U w0 σ0 K N s a w' σ:=by
 have hV:∀ T:TG,¬ False→vw s.H T=(vw s.H T).map (Vw.sb fun _=>.id):=fun T _=>(qpz _).symm
 have hm:Mv (fun _=>.id) (gr U (vw s.H) w σ) (gr U (vw s.H) w' σ) :=
   Mv.upd h.hr (fun _=>False) (by rw [h1]; exact Nat.le_refl _) hV (fun T _=>rfl) (fun T g o _ _=>by rw [h1]) (fun b _ _=>by rw [h1]) (fun T g o hT=>hT.elim) (fun T q _ T' e=>by cases e) (fun T T' q hT=>hT.elim) (fun T fr u xs q e=>by cases e)
 refine ARel.go h hm (fun t=>(TV.sb_id _).symm) ?_
 exact h.hr.upd (fun _=>False) hm hV (fun T _=>rfl) (fun T g o _ _=>by rw [h1]) (fun T v hT=>hT.elim) (fun T p hT=>hT.elim) (fun T g o hT=>hT.elim) h.hr.inj h2 h3 h4 (fun t _ hT=>hT.elim) (fun t g o _ hT=>hT.elim)
theorem q1ci:∀ (l:List Oper) (j:Nat),dstAt l j=(l[j]?).bind (·.dst)
 | [], j => by simp [dstAt]
 | o :: l, 0 => rfl
 | o :: l, j + 1 => by simpa [dstAt] using q1ci l j
theorem ql1 {l:List Oper} {s:TS} {a:Act} {w:World} {σ:Pl} (h:Rel U w0 σ0 K N s a w σ) {o:Oper} {b:Bool} (hw:Wn N l o s.S b):Region.wanted o (yielded l.toArray a.tmps)=b:=by
 unfold Wn at hw
 cases hg:o.guard with
 | none => rw [hg] at hw; subst hw; simp [Region.wanted,hg]
 | some g =>
   rw [hg] at hw
   obtain ⟨d,h1,h2,h3⟩:=hw
   obtain ⟨v,hv,hV⟩:=h.slot d h2
   obtain ⟨gj,gw⟩:=g
   simp only [Region.wanted,hg,yielded]
   have e1:((l.toArray[gj]?).bind (·.dst))=some d:=by rw [q1ci] at h1; simpa using h1
   rw [e1]
   simp only [Option.bind_some,hv]
   rcases h3 with ⟨c,e,h4⟩ | ⟨e,h4⟩
   · rw [e] at hV
     simp only [VR] at hV
     subst hV
     rw [← h4]
     cases c<;>cases gw<;>rfl
   · rw [e] at hV
     simp only [VR,Bool.false_eq_true,if_false] at hV
     subst hV
     rw [h4]
     rfl
end
section
variable {R Rf:Type} {X:Ctx Rf} {l:List Oper} {tab rs τ:List Nat} {S0:List (Nat×TV)} {H0:List TOb}
theorem Tr.at_:∀ {recs:List En},Tr X l tab rs τ S0 H0 recs→∀ e∈recs,∃ o,l[e.i]? = some o∧e.dst=o.dst∧memN e.i rs=false
 | [], _, e, h => by simp at h
 | e' :: recs, ht, e, h => by
   obtain ⟨ht,o,he⟩:=ht
   rcases List.mem_cons.1 h with rfl | h
   · exact ⟨o,he.at_,he.dst,he.free⟩
   · exact Tr.at_ ht e h
theorem Tr.split:∀ {recs:List En},Tr X l tab rs τ S0 H0 recs→∀ e∈recs,∃ later earlier o,recs=later++e::earlier∧Tr X l tab rs τ S0 H0 earlier∧EnOK X l tab rs τ S0 H0 earlier e o∧∀ e'∈later,e.i < e'.i
 | [], _, e, h => by simp at h
 | e1 :: recs, ht, e, h => by
   obtain ⟨ht,o,he⟩:=ht
   rcases List.mem_cons.1 h with rfl | hm
   · exact ⟨[],recs,o,rfl,ht,he,fun e' he'=>by simp at he'⟩
   · obtain ⟨later,earlier,o',h1,h2,h3,h4⟩:=Tr.split ht e hm
     refine ⟨e1::later,earlier,o',by rw [h1]; rfl,h2,h3,fun e' he'=>?_⟩
     rcases List.mem_cons.1 he' with rfl | he'
     · exact he.lt e hm
     · exact h4 e' he'
theorem qyr (D:Nat→Bool) (e:En) (m:List En):stA S0 H0 D (e::m)=if D e.i=true then ⟨putT (stA S0 H0 D m).S e.dst e.v,(stA S0 H0 D m).H++e.news⟩ else ⟨(stA S0 H0 D m).S,(stA S0 H0 D m).H++List.replicate e.news.length .gone⟩:=rfl
theorem qxy {D:Nat→Bool} {t:Nat} {m:List En}:∀ {later:List En},(∀ e∈later,e.dst=some t→D e.i=false)→getS (stA S0 H0 D (later++m)).S t=getS (stA S0 H0 D m).S t
 | [], _ => rfl
 | e :: later, h => by
   have ih:=qxy (m:=m) (later:=later) fun e' he'=>h e' (List.mem_cons_of_mem _ he')
   rw [List.cons_append,qyr]
   split
   · rename_i hd
     have:e.dst≠some t:=fun e1=>by rw [h e List.mem_cons_self e1] at hd; cases hd
     simp only [q5o,if_neg this]
     exact ih
   · exact ih
theorem qw7 {D:Nat→Bool} {t:Nat} {m:List En} (ht:t < (stA S0 H0 D m).H.length):∀ {later:List En},t < (stA S0 H0 D (later++m)).H.length∧(stA S0 H0 D (later++m)).H[t]? = (stA S0 H0 D m).H[t]?
 | [] => ⟨ht,rfl⟩
 | e :: later => by
   obtain ⟨h1,h2⟩:=qw7 ht (later:=later)
   rw [List.cons_append,qyr]
   split
   · exact ⟨by simp only [List.length_append]; omega,by simp only []; rw [List.getElem?_append_left h1]; exact h2⟩
   · exact ⟨by simp only [List.length_append]; omega,by simp only []; rw [List.getElem?_append_left h1]; exact h2⟩
theorem zR_mem {i:Nat} {t:Nat}:∀ {recs:List En},t∉zR tab i recs→∀ e∈recs,e.n≤t→t < e.n+e.news.length→inW tab e.i i=true
 | [], _, e, h, _, _ => by simp at h
 | e' :: recs, hz, e, h, h1, h2 => by
   unfold zR at hz
   cases hb:inW tab e'.i i with
   | true =>
     rw [hb] at hz
     rcases List.mem_cons.1 h with rfl | h
     · exact hb
     · exact zR_mem hz e h h1 h2
   | false =>
     rw [hb] at hz
     simp only [cond_false,List.mem_append,not_or] at hz
     rcases List.mem_cons.1 h with rfl | h
     · exact absurd (q16y.2 ⟨h1,h2⟩) hz.1
     · exact zR_mem hz.2 e h h1 h2
theorem seenA (hF:Facts l tab rs) {D:Nat→Bool} (hcl:Closed l D) {recs later earlier:List En} {e:En} {o:Oper} (hr:recs=later++e::earlier) (ht:Tr X l tab rs τ S0 H0 recs) (hte:Tr X l tab rs τ S0 H0 earlier) (he:EnOK X l tab rs τ S0 H0 earlier e o) (hlt:∀ e'∈later,e.i < e'.i)
   (hD:D e.i=false) (hW:∀ j,inW tab j e.i=true→D j=true) {b:Bool} (hw:Wn X.N l o (canS S0 earlier) b) (hHv:HvW o.op e.Hv (viewH (zA tab rs τ e.i earlier) (canH H0 earlier))) :
   Seen X.N l e o (fun x=>hideV (zR tab e.i earlier) (evT X.N (canS S0 earlier) x)) b (stA S0 H0 D recs):=by
 have hslot:∀ t∈usN l o,getS (stA S0 H0 D recs).S t=getS (canS S0 earlier) t:=by
   intro t htu
   have h1:getS (stA S0 H0 D recs).S t=getS (stA S0 H0 D (e::earlier)).S t:=by
     rw [hr]
     refine qxy fun e' he' hd=>?_
     cases hb:D e'.i with
     | false => rfl
     | true =>
       exfalso
       obtain ⟨o',ho',hd',hm'⟩:=ht.at_ e' (by rw [hr]; exact List.mem_append_left _ he')
       cases hi:inW tab e.i e'.i with
       | true => rw [q12l hF.tb hcl ho' hb hi] at hD; cases hD
       | false =>
         have:=hF.aa e.i e'.i o o' (hlt e' he') he.at_ ho' he.free hi
         exact (qjg this).2 t (by rw [← hd']; exact hd) htu
   rw [h1]
   have h2:getS (stA S0 H0 D (e::earlier)).S t=getS (stA S0 H0 D earlier).S t:=by
     rw [qyr,if_neg (by simp [hD])]
   rw [h2]
   refine q15l fun e' he' hd=>?_
   obtain ⟨o',ho',hd',hm'⟩:=hte.at_ e' he'
   cases hi:inW tab e'.i e.i with
   | true => exact hW _ hi
   | false =>
     have:=hF.aa e'.i e.i o' o (he.lt e' he') ho' he.at_ hm' hi
     exact absurd htu ((qjg this).1 t (by rw [← hd']; exact hd)).1
 refine ⟨fun t ob hob=>?_,fun _ x hx=>?_,hw.slots fun t htu=>(hslot t htu).symm,fun t h1 h2=>?_⟩
 · have key:∀ ob,(viewH (zA tab rs τ e.i earlier) (canH H0 earlier))[t]? = some ob→ob=.gone∨(stA S0 H0 D recs).H[t]? = some ob:=by
     intro ob hob
     rcases q1c8 hob with hg | ⟨h1,h2⟩
     · exact .inl hg
     · refine .inr ?_
       have hlt':t < (canH H0 earlier).length:=(List.getElem?_eq_some_iff.1 h1).1
       have e0:(stA S0 H0 D (e::earlier)).H[t]? = (stA S0 H0 D earlier).H[t]? ∧ t < (stA S0 H0 D (e::earlier)).H.length:=by
         have:=qw7 (S0:=S0) (H0:=H0) (D:=D) (t:=t) (m:=earlier) (by rw [qlh]; exact hlt') (later:=[e])
         exact ⟨this.2,this.1⟩
       rw [hr,(qw7 e0.2).2,e0.1,stA_at hte,h1]
       intro e' he' h3 h4
       exact hW _ (zR_mem (fun hz=>h2 (List.mem_append_right _ hz)) e' he' h3 h4)
   rcases hHv.at_ t ob hob with hg | h1 | ⟨hl,ob',h1,hc⟩
   · exact .inl hg
   · exact (key ob h1).imp_right .inl
   · rcases key ob' h1 with hg | h2
     · subst hg
       obtain ⟨_,_,_,_,_,_,⟨_,h3,_⟩ | ⟨_,_,_,_,h3,_⟩⟩:=hc<;>cases h3
     · exact .inr (.inr ⟨hl,ob',h2,hc⟩)
 · cases x with
   | tmp t =>
     have:=hslot t (usN_op hx)
     simp only [evT,rd,this]
     exact qfl _ _
   | const v => exact qfl _ _
   | func f => exact qfl _ _
   | global g => exact qfl _ _
 · exact q1c0 ht e (by rw [hr]; simp) hD h1 h2
end
end Go.K
namespace Go.K
open Go.M Go.RowKit
section
variable {R Rf:Type} {X:Ctx Rf} {l:List Oper} {tab rs τ:List Nat} {S0:List (Nat×TV)} {H0:List TOb} {recs:List En} {s0:TS}
theorem TrR.at_:∀ {res:List RE},TrR X l tab rs recs s0 res→∀ e∈res,∃ o,l[e.i]? = some o∧e.dst=o.dst∧memN e.i rs=true∧okAll tab e.i e.δ recs=true
 | [], _, e, h => by simp at h
 | e' :: res, ht, e, h => by
   obtain ⟨ht,o,he⟩:=ht
   rcases List.mem_cons.1 h with rfl | h
   · refine ⟨o,he.at_,he.dst,he.wr,?_⟩
     rcases he.run with ⟨_,_,h3⟩ | ⟨_,h2,_⟩
     · exact h3
     · rw [h2]
       have:∀ m:List En,okAll tab e.i [] m=true:=by
         intro m
         induction m with
         | nil => rfl
         | cons a m ih => simp [okAll,q7b,ih]
       exact this recs
   · exact TrR.at_ ht e h
theorem TrR.split:∀ {res:List RE},TrR X l tab rs recs s0 res→∀ e∈res,∃ later earlier o,res=later++e::earlier∧REOK X l tab rs recs s0 earlier e o∧∀ e'∈later,e.i < e'.i
 | [], _, e, h => by simp at h
 | e1 :: res, ht, e, h => by
   obtain ⟨ht,o,he⟩:=ht
   rcases List.mem_cons.1 h with rfl | hm
   · exact ⟨[],res,o,rfl,he,fun e' he'=>by simp at he'⟩
   · obtain ⟨later,earlier,o',h1,h3,h4⟩:=TrR.split ht e hm
     refine ⟨e1::later,earlier,o',by rw [h1]; rfl,h3,fun e' he'=>?_⟩
     rcases List.mem_cons.1 he' with rfl | he'
     · exact he.lt e hm
     · exact h4 e' he'
theorem q1d5 {i:Nat} {δ:List St}:∀ {recs:List En},okAll tab i δ recs=true→∀ e∈recs,inW tab e.i i=true∨q7b e δ=true
 | [], _, e, h => by simp at h
 | e' :: recs, ho, e, h => by
   simp only [okAll,Bool.and_eq_true,Bool.or_eq_true] at ho
   rcases List.mem_cons.1 h with rfl | h
   · exact ho.1
   · exact q1d5 ho.2 e h
theorem qv4 {D:Nat→Bool} {s:TS} {m:List RE}:∀ {later:List RE},(∀ e∈later,D e.i=false)→stR D s (later++m)=stR D s m
 | [], _ => rfl
 | e :: later, h => by
   show (if D e.i=true then _ else stR D s (later++m))=_
   rw [if_neg (by simp [h e List.mem_cons_self])]
   exact qv4 fun e' he'=>h e' (List.mem_cons_of_mem _ he')
theorem q12m {D:Nat→Bool} {s:TS}:∀ {m:List RE},(∀ e∈m,D e.i=true)→stR D s m=canR s m
 | [], _ => rfl
 | e :: m, h => by
   show (if D e.i=true then ((stR D s m).aps e.δ).put e.dst e.v else _)=((canR s m).aps e.δ).put e.dst e.v
   rw [if_pos (h e List.mem_cons_self),q12m fun e' he'=>h e' (List.mem_cons_of_mem _ he')]
structure Sim (Zt Zs:Nat→Prop) (s s':TS):Prop where
 len:s.H.length=s'.H.length
 H:∀ t:Nat,¬ Zt t→s.H[t]? = s'.H[t]?
 S:∀ t,¬ Zs t→getS s.S t=getS s'.S t
theorem Sim.ap {Zt Zs:Nat→Prop} {s s':TS} (h:Sim Zt Zs s s') (x:St):Sim Zt Zs (s.ap x) (s'.ap x):=by
 cases x with
 | sb θ => exact ⟨by simp only [TS.ap,hAp,q11]; exact h.len,fun t ht=>by simp only [TS.ap,hAp,sbH_at,h.H t ht],fun t ht=>by simp only [TS.ap,sAp,q1r,h.S t ht]⟩
 | set t' o => exact ⟨by simp only [TS.ap,hAp,List.length_set]; exact h.len,fun t ht=>by simp only [TS.ap,hAp,List.getElem?_set,h.len,h.H t ht],h.S⟩
 | new t' o =>
   refine ⟨?_,fun t ht=>?_,h.S⟩
   · simp only [TS.ap,hAp,hNew,h.len]
     cases Nat.blt t' s'.H.length<;>simp [h.len]
   · simp only [TS.ap,hAp,hNew,h.len]
     cases Nat.blt t' s'.H.length with
     | true => simp only [cond_true,List.getElem?_set,h.len,h.H t ht]
     | false => simp only [cond_false,List.getElem?_append,h.len,h.H t ht]
theorem Sim.aps {Zt Zs:Nat→Prop}:∀ {δ:List St} {s s':TS},Sim Zt Zs s s'→Sim Zt Zs (s.aps δ) (s'.aps δ)
 | [], _, _, h => h
 | x :: δ, s, s', h => Sim.aps (δ:=δ) (h.ap x)
theorem Sim.put {Zt Zs:Nat→Prop} {s s':TS} (h:Sim Zt Zs s s') (d:Option Tmp) (v:TV):Sim Zt Zs (s.put d v) (s'.put d v):=by
 rw [qdb,qdb]
 exact ⟨h.len,h.H,fun t ht=>by simp only [q5o,h.S t ht]⟩
theorem Sim.canR {Zt Zs:Nat→Prop} {s s':TS} (h:Sim Zt Zs s s'):∀ (res:List RE),Sim Zt Zs (canR s res) (canR s' res)
 | [] => h
 | e :: res => ((Sim.canR h res).aps (δ:=e.δ)).put e.dst e.v
theorem Ext.canR {s s':TS} (h:Ext s s'):∀ (res:List RE),Ext (canR s res) (canR s' res)
 | [] => h
 | e :: res => ((Ext.canR h res).aps e.δ).put e.dst e.v
theorem q1em (ht:Tr X l tab rs τ S0 H0 recs) (D:Nat→Bool):Sim (fun t=>∃ e∈recs,D e.i=false∧e.n≤t∧t < e.n+e.news.length) (fun t=>∃ e∈recs,D e.i=false∧e.dst=some t) (stA S0 H0 D recs) ⟨canS S0 recs,canH H0 recs⟩:=by
 refine ⟨qlh D recs,fun t hz=>stA_at ht fun e he h1 h2=>?_,fun t hz=>q15l fun e he h1=>?_⟩
 · cases hb:D e.i with
   | true => rfl
   | false => exact absurd ⟨e,he,hb,h1,h2⟩ hz
 · cases hb:D e.i with
   | true => rfl
   | false => exact absurd ⟨e,he,hb,h1⟩ hz
end
section
variable {U:Nat→Prop} {w0:World} {σ0:Pl} {K:Nat→Bool} {P:Program} {R Rf:Type}
theorem vw_pad (H:List TOb) (n:Nat):vw (H++List.replicate n .gone)=vw H:=by
 funext T
 have key:∀ t:Nat,(H++List.replicate n TOb.gone)[t]? = H[t]? ∨ (H[t]? = none∧(H++List.replicate n TOb.gone)[t]? = some .gone):=by
   intro t
   rcases Nat.lt_or_ge t H.length with h1 | h1
   · exact .inl (List.getElem?_append_left h1)
   · rw [List.getElem?_append_right h1,List.getElem?_eq_none h1,List.getElem?_replicate]
     split
     · exact .inr ⟨rfl,rfl⟩
     · exact .inl rfl
 cases T with
 | o t => rcases key t with e | ⟨e1,e2⟩<;>simp only [vw]<;>first | rw [e] | (rw [e1,e2]; rfl)
 | r t i f => rcases key t with e | ⟨e1,e2⟩<;>simp only [vw]<;>first | rw [e] | (rw [e1,e2]; rfl)
theorem q18y {δ δ':List St} {v v':TV} (h:rt δ' v'=some (δ,v)):δ'=δ∧v'=v:=by
 simp only [rt,Option.some.injEq,Prod.mk.injEq] at h
 exact h
theorem q1iw {X:Ctx Rf} (hX:CtxOK P X) (hmix:P.follows .mixedOrders=true) (hK:∀ t,keptB X.kp t=false→K t=false) {id:Nat} {l:List Oper} {tab rs τ:List Nat} {s:TS} {k:TS→Option R} {r:R} (h:drwT X l tab rs τ s k=some r)
   {Q:Exit→Act→World→Prop} (hQ:∀ s' a' w' σ',Rel U w0 σ0 K X.N s' a' w' σ'→k s'=some r→Q .normal a' w') {a:Act} {w:World} {σ:Pl} (hr:Rel U w0 σ0 K X.N s a w σ):(Code.region id l.toArray true).wp P Q a w:=by
 unfold drwT at h
 obtain ⟨hdr,h⟩:=q4 h
 have hF:=facts hdr
 obtain ⟨recs,S',htr,hcov,hS',h⟩:=q1if (S0:=s.S) (H0:=s.H) l 0 s.S [] rfl trivial (fun e he=>by simp at he) (fun j hj=>by omega) (fun _=>rfl) h
 obtain ⟨res,sf,htrR,hcovR,hsf,hk⟩:=q1id (s0:=⟨canS s.S recs,canH s.H recs⟩) l 0 ⟨S',canH s.H recs⟩ [] rfl trivial (fun e he=>by simp at he) (fun j hj=>by omega) ⟨rfl,hS'⟩ h
 clear h
 have hback:∀ i k,k∈onOf l i→k < i:=by
   intro i k hk
   cases ho:l[i]? with
   | none => simp [onOf,ho] at hk
   | some o =>
     rw [q1ed ho] at hk
     have:=(tab_at hF.tb i o ho).2 k hk
     omega
 refine q1hd hmix hback (fun D a w=>∃ σ,Rel U w0 σ0 K X.N (stR D (stA s.S s.H D recs) res) a w σ) ?_ ?_ ?_
 ·
   intro D i o a w hcl hbey ho hDi hon ⟨σ,hr⟩ KK hKK
   have hW:=fun j hj=>W_done hF.tb hcl i o ho hon j hj
   have hil:i < l.length:=(List.getElem?_eq_some_iff.1 ho).1
   cases hm:memN i rs with
   | false =>
     obtain ⟨e,hem,rfl⟩:=hcov i hil hil hm
     obtain ⟨later,earlier,o',hrec,hte,he,hlt⟩:=htr.split e hem
     have hoo:o'=o:=by have:=he.at_; rw [ho] at this; injection this with this; exact this.symm
     subst hoo
     have hRes:∀ re∈res,D re.i=true→q7b e re.δ=true∧∀ t,re.dst=some t→e.dst≠some t∧t∉usN l o':=by
       intro re hre hD
       obtain ⟨o2,h1,h2,h3,h4⟩:=htrR.at_ re hre
       have hni:inW tab e.i re.i=false:=by
         cases hb:inW tab e.i re.i with
         | false => rfl
         | true => rw [q12l hF.tb hcl h1 hD hb] at hDi; cases hDi
       refine ⟨?_,fun t ht=>?_⟩
       · rcases q1d5 h4 e hem with hb | hb
         · rw [hni] at hb; cases hb
         · exact hb
       · rw [h2] at ht
         rw [he.dst]
         rcases Nat.lt_trichotomy e.i re.i with hlt' | heq | hgt
         · have hc:=qjg (hF.aa e.i re.i o' o2 hlt' ho h1 hm hni)
           exact ⟨fun e1=>(hc.1 t e1).2 ht,hc.2 t ht⟩
         · rw [heq] at hm; rw [hm] at h3; cases h3
         · have hc:=qjg (hF.ra re.i e.i o2 o' hgt h1 ho h3 hm)
           exact ⟨(hc.1 t ht).2,(hc.1 t ht).1⟩
     have hnew:Ext (stR (done1 D e.i) (stA s.S s.H (done1 D e.i) recs) res) (apE e (stR D (stA s.S s.H D recs) res))∧e.n+e.news.length≤(stR D (stA s.S s.H D recs) res).H.length:=by
       refine q1dy (by rw [qlh]; exact (Tr.bnd htr e hem).2) (q1eo htr e hem hDi fun e' he' hlt' hD' d hd=>?_) (fun re hre=>?_) (fun re hre hD=>⟨(hRes re hre hD).1,fun t ht=>((hRes re hre hD).2 t ht).1⟩)
       · obtain ⟨o2,h1,h2,h3⟩:=htr.at_ e' he'
         have hni:inW tab e.i e'.i=false:=by
           cases hb:inW tab e.i e'.i with
           | false => rfl
           | true => rw [q12l hF.tb hcl h1 hD' hb] at hDi; cases hDi
         have hc:=qjg (hF.aa e.i e'.i o' o2 hlt' ho h1 hm hni)
         rw [he.dst]
         exact fun e1=>(hc.1 d e1).2 (by rw [← h2]; exact hd)
       · obtain ⟨o2,h1,h2,h3,h4⟩:=htrR.at_ re hre
         exact qpn fun e1=>by rw [e1,hm] at h3; cases h3
     have hgo:∀ a' w' σ',Rel U w0 σ0 K X.N (apE e (stR D (stA s.S s.H D recs) res)) a' w' σ'→KK a' w':=fun a' w' σ' h'=>hKK a' w' ⟨σ',h'.ext hnew.1.symm⟩
     rcases he.run with ⟨hw,hxs,hHv,δ,hst,hobs⟩ | ⟨hw,hv,hnews,hHv,hxs⟩
     · have hseen:=q160 he.wk (fun _=>hxs) (seenA hF hcl hrec htr hte he hlt hDi hW hw hHv) (D:=D) (res:=res) (fun re hre hD=>⟨(hRes re hre hD).1,fun t ht=>((hRes re hre hD).2 t ht).2⟩)
       rw [ql1 hr hseen.gd,if_pos rfl]
       have hdoes:Does P U w0 σ0 K X.N o' (stR D (stA s.S s.H D recs) res) a w rt (δ,e.v):=by
         cases hld:isLoad o'.op with
         | true =>
           refine q1gz hX hr (q1gf hr.hr.sees fun t ob hob=>?_) hld (fun x hx=>Wk.vr _ _ _ (hseen.xs rfl x hx) (hr.ev x)) hst
           rcases hseen.hv t ob hob with h1 | h1 | ⟨_,h1⟩
           · exact .inl h1
           · exact .inr (.inl h1)
           · exact .inr (.inr h1)
         | false =>
           have hl:HLe (fun t=>e.n≤t∧t < e.n+e.news.length) e.Hv (stR D (stA s.S s.H D recs) res).H:=by
             refine ⟨fun t ob hob=>?_,fun t _ hf=>.inr (hseen.fr t hf.1 hf.2),?_⟩
             · rcases hseen.hv t ob hob with h1 | h1 | ⟨h1,_⟩
               · exact .inl h1
               · exact .inr h1
               · rw [hld] at h1; cases h1
             · have:=hHv.len
               rw [q112,← he.n] at this
               omega
           exact q19t hX hr hl hK (fun x hx=>Wk.vr _ _ _ (hseen.xs rfl x hx) (hr.ev x)) (fun δ' v' hrt t o hmem=>q16m hobs t o (by rw [← (q18y hrt).1]; exact hmem)) hst
       obtain ⟨δ',v',hrt,hdo⟩:=hdoes
       obtain ⟨rfl,rfl⟩:=q18y hrt
       refine hdo Q KK fun a' w' σ' h'=>hgo a' w' σ' ?_
       rw [q1bx _ hobs hnew.2,qdb,← he.dst] at h'
       exact h'
     · have hseen:=q160 (b:=false) he.wk (fun hb=>by cases hb) (seenA hF hcl hrec htr hte he hlt hDi hW hw ⟨fun t ob hob=>by rw [hHv] at hob; simp at hob,by rw [hHv]; exact Nat.zero_le _⟩) (D:=D) (res:=res) (fun re hre hD=>⟨(hRes re hre hD).1,fun t ht=>((hRes re hre hD).2 t ht).2⟩)
       rw [ql1 hr hseen.gd,if_neg (by simp)]
       refine hgo _ _ σ ?_
       have:=hr.put o'.dst (A:=.undef) (v:=undef) (by simp [VR])
       rw [qdb] at this
       unfold apE
       rw [hnews,hv,he.dst]
       exact this
   | true =>
     obtain ⟨re,hrem,rfl⟩:=hcovR i hil hil hm
     obtain ⟨later,earlier,o',hres,he,hlt⟩:=htrR.split re hrem
     have hoo:o'=o:=by have:=he.at_; rw [ho] at this; injection this with this; exact this.symm
     subst hoo
     have hlater:∀ re'∈later,D re'.i=false:=by
       intro re' hre'
       obtain ⟨o2,h1,h2,h3,h4⟩:=htrR.at_ re' (by rw [hres]; exact List.mem_append_left _ hre')
       cases hb:D re'.i with
       | false => rfl
       | true => rw [q12l hF.tb hcl h1 hb (hF.rr re.i re'.i o' o2 (hlt re' hre') ho h1 hm h3)] at hDi; cases hDi
     have hearl:∀ re'∈earlier,D re'.i=true:=by
       intro re' hre'
       obtain ⟨o2,h1,h2,h3,h4⟩:=htrR.at_ re' (by rw [hres]; exact List.mem_append_right _ (List.mem_cons_of_mem _ hre'))
       exact hW _ (hF.rr re'.i re.i o2 o' (he.lt re' hre') h1 ho h3 hm)
     have hst0:stR D (stA s.S s.H D recs) res=canR (stA s.S s.H D recs) earlier:=by
       rw [hres,qv4 hlater]
       show (if D re.i=true then _ else stR D (stA s.S s.H D recs) earlier)=_
       rw [if_neg (by simp [hDi]),q12m hearl]
     have hst1:stR (done1 D re.i) (stA s.S s.H (done1 D re.i) recs) res=((canR (stA s.S s.H D recs) earlier).aps re.δ).put re.dst re.v:=by
       have e1:stA s.S s.H (done1 D re.i) recs=stA s.S s.H D recs:=q12f fun e he'=>by
         obtain ⟨o2,h1,h2,h3⟩:=htr.at_ e he'
         exact qpn fun e2=>by rw [e2,hm] at h3; cases h3
       rw [e1,hres,qv4 fun re' hre'=>by rw [qpn (by have:=hlt re' hre'; omega)]; exact hlater re' hre']
       show (if done1 D re.i re.i=true then ((stR (done1 D re.i) (stA s.S s.H D recs) earlier).aps re.δ).put re.dst re.v else _)=_
       rw [if_pos q1ca,q12m fun re' hre'=>by rw [qpn (by have:=he.lt re' hre'; omega)]; exact hearl re' hre']
     rw [hst0] at hr
     have hsim:=(q1em htr D).canR earlier
     have hslot:∀ t∈usN l o',getS (canR (stA s.S s.H D recs) earlier).S t=getS (canR ⟨canS s.S recs,canH s.H recs⟩ earlier).S t:=by
       intro t htu
       refine hsim.S t ?_
       rintro ⟨e,hem,hDe,hde⟩
       obtain ⟨o2,h1,h2,h3⟩:=htr.at_ e hem
       rcases Nat.lt_trichotomy e.i re.i with hlt' | heq | hgt
       · cases hb:inW tab e.i re.i with
         | true => rw [hW _ hb] at hDe; cases hDe
         | false => exact ((qjg (hF.aa e.i re.i o2 o' hlt' h1 ho h3 hb)).1 t (by rw [← h2]; exact hde)).1 htu
       · rw [heq,hm] at h3; cases h3
       · exact (qjg (hF.ra re.i e.i o' o2 hgt ho h1 hm h3)).2 t (by rw [← h2]; exact hde) htu
     rcases he.run with ⟨hw,hst,hok⟩ | ⟨hw,hδ,hv⟩
     · rw [ql1 hr (hw.slots fun t ht=>(hslot t ht).symm),if_pos rfl]
       have hl:HLe (fun _=>True) (viewH (zR tab re.i recs) (canR ⟨canS s.S recs,canH s.H recs⟩ earlier).H) (canR (stA s.S s.H D recs) earlier).H:=by
         refine ⟨fun t ob hob=>?_,fun t ht _=>.inl (List.getElem?_eq_none (by rw [hsim.len]; rw [q112] at ht; exact ht)),by rw [q112,hsim.len]; exact Nat.le_refl _⟩
         rcases q1c8 hob with hg | ⟨h1,h2⟩
         · exact .inl hg
         · refine .inr ?_
           rw [hsim.H t,h1]
           rintro ⟨e,hem,hDe,h3,h4⟩
           rw [hW _ (zR_mem h2 e hem h3 h4)] at hDe
           cases hDe
       have hxs:∀ x∈o'.op.operands,VR (gr U (vw (canR (stA s.S s.H D recs) earlier).H) w σ) (hideV (zR tab re.i recs) (evT X.N (canR ⟨canS s.S recs,canH s.H recs⟩ earlier).S x)) (a.eval x):=by
         intro x hx
         refine Wk.vr _ _ _ ?_ (hr.ev x)
         cases x with
         | tmp t =>
           simp only [evT,rd,hslot t (usN_op hx)]
           exact qfl _ _
         | const v => exact qfl _ _
         | func f => exact qfl _ _
         | global g => exact qfl _ _
       obtain ⟨δ',v',hrt,hdo⟩:=q19t hX hr hl hK hxs (fun _ _ _ _ _ _=>trivial) hst
       obtain ⟨rfl,rfl⟩:=q18y hrt
       refine hdo Q KK fun a' w' σ' h'=>hKK a' w' ⟨σ',?_⟩
       rw [hst1,he.dst]
       exact h'
     · rw [ql1 hr (hw.slots fun t ht=>(hslot t ht).symm),if_neg (by simp)]
       refine hKK _ _ ⟨σ,?_⟩
       rw [hst1,hδ,hv,he.dst]
       exact hr.put o'.dst (A:=.undef) (v:=undef) (by simp [VR])
 ·
   intro D a w hall hbey ⟨σ,hr⟩
   have e1:Ext (stA s.S s.H D recs) ⟨canS s.S recs,canH s.H recs⟩:=by
     have hs:=q1em htr D
     have hno:∀ e∈recs,D e.i=true:=fun e he=>by
       obtain ⟨o2,h1,_⟩:=htr.at_ e he
       exact hall _ (List.getElem?_eq_some_iff.1 h1).1
     refine ⟨List.ext_getElem? fun t=>hs.H t ?_,fun t=>hs.S t ?_⟩
     · rintro ⟨e,he,hb,_⟩; rw [hno e he] at hb; cases hb
     · rintro ⟨e,he,hb,_⟩; rw [hno e he] at hb; cases hb
   have e2:stR D (stA s.S s.H D recs) res=canR (stA s.S s.H D recs) res:=q12m fun re hre=>by
     obtain ⟨o2,h1,_⟩:=htrR.at_ re hre
     exact hall _ (List.getElem?_eq_some_iff.1 h1).1
   rw [e2] at hr
   exact hQ sf a w σ ((hr.ext (e1.canR res)).ext hsf.symm) hk
 ·
   have e2:stR (fun _=>false) (stA s.S s.H (fun _=>false) recs) res=stA s.S s.H (fun _=>false) recs:=by
     have:=qv4 (D:=fun _=>false) (s:=stA s.S s.H (fun _=>false) recs) (m:=[]) (later:=res) fun _ _=>rfl
     rw [List.append_nil] at this
     exact this
   refine ⟨σ,?_⟩
   rw [e2]
   have hpad:∀ m:List En,(stA s.S s.H (fun _=>false) m).S=s.S∧vw (stA s.S s.H (fun _=>false) m).H=vw s.H:=by
     intro m
     induction m with
     | nil => exact ⟨rfl,rfl⟩
     | cons e m ih =>
       rw [qyr,if_neg (by simp)]
       exact ⟨ih.1,(vw_pad _ _).trans ih.2⟩
   obtain ⟨h1,h2⟩:=hpad recs
   have hr':=hr.heapEq (w':={ w with drawn:=w.drawn+1 }) rfl rfl rfl rfl
   show ARel _ _ _ _ _ _ _ _ _ _
   rw [h1,h2]
   exact hr'
end
end Go.K
namespace Go.K
open Go.M Go.RowKit
inductive Ann where
 | z
 | s (n:Nat)
 | d (tab rs τ:List Nat)
 | one (a:Ann)
 | two (a b:Ann)
 | u (n:Nat) (a:Ann)
def Ann.l:Ann→Ann
 | .two a _ => a
 | .one a => a
 | _ => .z
def Ann.r:Ann→Ann
 | .two _ b => b
 | _ => .z
def Ann.sum:Ann→Option Nat
 | .s n => some n
 | _ => none
def Ann.unr:Ann→Option (Nat×Ann)
 | .u n a => some (n,a)
 | _ => none
def subC:Code→List Bool→Code
 | c, [] => c
 | .seq x _, false :: p => subC x p
 | .seq _ y, true :: p => subC y p
 | .cond _ x _, false :: p => subC x p
 | .cond _ _ y, true :: p => subC y p
 | .block _ x, _ :: p => subC x p
 | .loop x, _ :: p => subC x p
 | c, _ => c
def bodyOf (f:Func):Code:=match f.body with | some c=>c | none=>.skip
section
variable {R Rf:Type}
def regT (X:Ctx Rf) (l:List Oper) (draw:Bool) (a:Ann) (s:TS) (k:TS→Option R):Option R :=
 match draw with
 | false => runT X l l s k
 | true => match a with | .d tab rs τ=>drwT X l tab rs τ s k | _=>none
def unrF (f:TS→(TS→Option R)→Option R):Nat→TS→Option R
 | 0, _ => none
 | n + 1, s => f s (unrF f n)
def den (X:Ctx Rf):Code→Ann→TS→(TS→Option R)→(Nat→TS→Option R)→(Rf→Option R)→Option R
 | c,a,s,kn,ke,kr =>
   match a.sum with
   | some n =>
     match X.Λ n with
     | some σ => match σ.dec s with | some x=>bnd (σ.m x) (fun o=>σ.cont x o kn ke kr) | none=>none
     | none => none
   | none =>
     match c with
     | .skip => kn s
     | .region _ ops d => regT X ops.toList d a s kn
     | .seq x y => den X x a.l s (fun s'=>den X y a.r s' kn ke kr) ke kr
     | .cond c x y => match evT X.N s.S c with | .bool g=>bif g then den X x a.l s kn ke kr else den X y a.r s kn ke kr | _=>none
     | .block id x => den X x a.l s kn (fun id' s'=>bif Nat.beq id' id then kn s' else ke id' s') kr
     | .loop x => match a.unr with | some (n,b)=>unrF (fun s k=>den X x b s k ke kr) n s | none=>none
     | .exit id => ke id s
     | .ret => match X.res s with | some r=>kr r | none=>none
     | _ => none
end
section
variable {U:Nat→Prop} {w0:World} {σ0:Pl} {K:Nat→Bool} {N:Nat} {P:Program} {R Rf:Type}
def CW (P:Program) (U:Nat→Prop) (w0:World) (σ0:Pl) (K:Nat→Bool) (N:Nat) (c:Code) (Q:Exit→TS→Prop) (s:TS):Prop :=
 ∀ a w σ,Rel U w0 σ0 K N s a w σ→c.wp P (fun e a' w'=>∃ s' σ',Rel U w0 σ0 K N s' a' w' σ'∧Q e s') a w
def PostT (X:Ctx Rf) (kn:TS→Option R) (ke:Nat→TS→Option R) (kr:Rf→Option R) (r:R):Exit→TS→Prop
 | .normal, s' => kn s'=some r
 | .exit id, s' => ke id s'=some r
 | .ret, s' => ∃ x,X.res s'=some x∧kr x=some r
 | _, _ => False
def Keeps (X:Ctx Rf) (K:Nat→Bool):Prop:=∀ t,keptB X.kp t=false→K t=false
def SummOK (P:Program) (X:Ctx Rf) (n:Nat) (c:Code):Prop :=
 ∀ σ,X.Λ n=some σ→∀ (U:Nat→Prop) (w0:World) (σ0:Pl) (K:Nat→Bool),Keeps X K→∀ (R:Type) (s:TS) (x:σ.A) (o:σ.O) (kn:TS→Option R) (ke:Nat→TS→Option R) (kr:Rf→Option R) (r:R),
   σ.dec s=some x→σ.m x=some o→σ.cont x o kn ke kr=some r→CW P U w0 σ0 K X.N c (PostT X kn ke kr r) s
def sums:Code→Ann→List (Nat×Code)
 | c,a =>
   match a.sum with
   | some n => [(n,c)]
   | none =>
     match c with
     | .seq x y => sums x a.l++sums y a.r
     | .cond _ x y => sums x a.l++sums y a.r
     | .block _ x => sums x a.l
     | .loop x => match a.unr with | some (_,b)=>sums x b | none=>[]
     | _ => []
theorem opT_ok {X:Ctx Rf} (hX:CtxOK P X) (hK:Keeps X K) {o:Oper} {s:TS} {k:TS→Option R} {r:R} (h:opT X o s k=some r) {a:Act} {w:World} {σ:Pl} (hr:Rel U w0 σ0 K X.N s a w σ) {Q:Exit→Act→World→Prop} {KK:Act→World→Prop}
   (hKK:∀ s' a' w' σ',Rel U w0 σ0 K X.N s' a' w' σ'→k s'=some r→KK a' w'):o.wp P a w KK Q:=by
 unfold opT at h
 obtain ⟨δ,v,hk,hdo⟩:=q19t (F:=fun _=>True) hX hr (HLe.refl s.H) hK (fun x _=>hr.ev x) (fun _ _ _ _ _ _=>trivial) h
 exact hdo Q KK fun a' w' σ' h'=>hKK _ a' w' σ' h' hk
theorem q1iq {X:Ctx Rf} (hX:CtxOK P X) (hK:Keeps X K) {all:List Oper} {k:TS→Option R} {r:R} {Q:Exit→Act→World→Prop} (hQ:∀ s' a' w' σ',Rel U w0 σ0 K X.N s' a' w' σ'→k s'=some r→Q .normal a' w') :
   ∀ (l:List Oper) (s:TS) (a:Act) (w:World) (σ:Pl),Rel U w0 σ0 K X.N s a w σ→runT X all l s k=some r→wpList P all.toArray Q l a w:=by
 intro l
 induction l with
 | nil => intro s a w σ hr h; exact hQ s a w σ hr h
 | cons o rest ih =>
   intro s a w σ hr h
   unfold runT stepT at h
   split at h
   · rename_i hg
     exact wpList_plain hg fun K' hK'=>opT_ok hX hK h hr fun s' a' w' σ' h' hk=>hK' _ _ (ih s' a' w' σ' h' hk)
   · rename_i g hg
     obtain ⟨S1,hext,hcase⟩:=qz4 hg h
     have hr1:Rel U w0 σ0 K X.N ⟨S1,s.H⟩ a w σ:=Rel.ext (s:=s) (s':=⟨S1,s.H⟩) ⟨rfl,fun t=>(hext t).symm⟩ hr
     refine wpList_step fun K' hK'=>?_
     rcases hcase with ⟨hw,h1⟩ | ⟨hw,h1⟩
     · rw [ql1 hr hw]
       simp only [if_true]
       exact opT_ok hX hK h1 hr1 fun s' a' w' σ' h' hk=>hK' _ _ (ih s' a' w' σ' h' hk)
     · rw [ql1 hr hw]
       simp only [Bool.false_eq_true,if_false]
       exact hK' _ _ (ih _ _ _ σ (hr1.put o.dst (A:=.undef) (v:=undef) (by simp [VR])) h1)
theorem q1ib {X:Ctx Rf} (hX:CtxOK P X) (hmix:P.follows .mixedOrders=true) (hK:Keeps X K) {id:Nat} {l:List Oper} {d:Bool} {an:Ann} {s:TS} {k:TS→Option R} {r:R} (h:regT X l d an s k=some r) {Q:Exit→TS→Prop} (hQ:∀ s',k s'=some r→Q .normal s') :
   CW P U w0 σ0 K X.N (.region id l.toArray d) Q s:=by
 intro a w σ hr
 unfold regT at h
 split at h
 · refine wp_region_lit ?_
   exact q1iq hX hK (fun s' a' w' σ' h' hk=>⟨s',σ',h',hQ s' hk⟩) l s a w σ hr h
 · split at h
   · exact q1iw hX hmix hK h (fun s' a' w' σ' h' hk=>⟨s',σ',h',hQ s' hk⟩) hr
   · cases h
theorem CW.mono {c:Code} {Q Q':Exit→TS→Prop} {s:TS} (hq:∀ e s,Q e s→Q' e s) (h:CW P U w0 σ0 K N c Q s):CW P U w0 σ0 K N c Q' s :=
 fun a w σ hr=>Code.wp_mono (fun _ _ _ ⟨s',σ',h1,h2⟩=>⟨s',σ',h1,hq _ _ h2⟩) (h a w σ hr)
theorem CW.loop {ι:Type} {body:Code} {Q:Exit→TS→Prop} (I:ι→TS) (ok:ι→Prop) (μ:ι→Nat)
   (round:∀ i,ok i→∀ a w σ,Rel U w0 σ0 K N (I i) a w σ→body.wp P (fun e a' w'=>match e with | .normal=>∃ j σ',ok j∧μ j < μ i∧Rel U w0 σ0 K N (I j) a' w' σ' | e=>∃ s' σ',Rel U w0 σ0 K N s' a' w' σ'∧Q e s') a w) :
   ∀ i0,ok i0→CW P U w0 σ0 K N (.loop body) Q (I i0):=by
 intro i0 h0 a w σ hr
 suffices H:∀ n i a w σ,ok i→μ i=n→Rel U w0 σ0 K N (I i) a w σ→∀ b k cs,∃ e a' w',(∃ s' σ',Rel U w0 σ0 K N s' a' w' σ'∧Q e s')∧Arrives P (lone (b.at a (.code body::.inLoop body::k)) cs w) b k cs e a' w' by
   intro b k cs
   obtain ⟨e,a',w',hq,harr⟩:=H (μ i0) i0 a w σ h0 rfl hr b k cs
   exact ⟨e,a',w',hq,.of_steps (.one step_loop) harr⟩
 intro n
 induction n using Nat.strongRecOn with
 | _ n ih =>
   intro i a w σ hok hn hrel b k cs
   obtain ⟨e,a₁,w₁,hq,harr⟩:=round i hok a w σ hrel b (.inLoop body::k) cs
   cases e with
   | normal =>
     obtain ⟨j,σ2,hj,hlt,hr2⟩:=hq
     obtain ⟨e,a',w',hq',harr'⟩:=ih (μ j) (hn ▸ hlt) j a₁ w₁ σ2 hj rfl hr2 b k cs
     exact ⟨e,a',w',hq',.of_steps (Steps.trans harr (.one step_inLoop)) harr'⟩
   | exit id => exact ⟨_,a₁,w₁,hq,fun k' hk=>harr k' (by simpa [exitTo] using hk)⟩
   | goto l => exact ⟨_,a₁,w₁,hq,fun k' hk=>harr k' (by simpa [gotoIn] using hk)⟩
   | ret => exact ⟨_,a₁,w₁,hq,harr⟩
   | panic chain => exact ⟨_,a₁,w₁,hq,harr⟩
   | outgrown => exact ⟨_,a₁,w₁,hq,harr⟩
theorem qzo {α β:Type} {m:Option α} {f:α→Option β} {r:β} (h:bnd m f=some r):∃ x,m=some x∧f x=some r:=by
 cases m with
 | none => cases h
 | some x => exact ⟨x,rfl,h⟩
theorem den_ok {X:Ctx Rf} (hX:CtxOK P X) (hmix:P.follows .mixedOrders=true) (hK:Keeps X K) {r:R}:∀ (c:Code) (a:Ann) (s:TS) (kn:TS→Option R) (ke:Nat→TS→Option R) (kr:Rf→Option R),
   (∀ p∈sums c a,SummOK P X p.1 p.2)→den X c a s kn ke kr=some r→CW P U w0 σ0 K X.N c (PostT X kn ke kr r) s:=by
 intro c
 induction c with
 | skip =>
   intro a s kn ke kr hs h
   unfold den at h
   split at h
   · rename_i n hn
     exact summ hs hn h
   · exact fun a w σ hr=>wp_skip ⟨s,σ,hr,h⟩
 | region id ops d =>
   intro a s kn ke kr hs h
   unfold den at h
   split at h
   · rename_i n hn
     exact summ hs hn h
   · have:=q1ib (id:=id) (U:=U) (w0:=w0) (σ0:=σ0) hX hmix hK h (Q:=PostT X kn ke kr r) (fun s' hk=>hk)
     simpa using this
 | seq x y ihx ihy =>
   intro a s kn ke kr hs h
   unfold den at h
   split at h
   · rename_i n hn
     exact summ hs hn h
   · rename_i hn
     have hsum:sums (.seq x y) a=sums x a.l++sums y a.r:=by conv=>lhs; unfold sums; simp only [hn]
     rw [hsum] at hs
     have hx:=ihx a.l s _ ke kr (fun p hp=>hs p (List.mem_append_left _ hp)) h
     intro a1 w1 σ1 hr
     refine wp_seq (Code.wp_mono ?_ (hx a1 w1 σ1 hr))
     rintro e a' w' ⟨s',σ',h1,h2⟩
     cases e with
     | normal => exact ihy a.r s' kn ke kr (fun p hp=>hs p (List.mem_append_right _ hp)) h2 a' w' σ' h1
     | exit id => exact ⟨s',σ',h1,h2⟩
     | ret => exact ⟨s',σ',h1,h2⟩
     | _ => exact h2.elim
 | cond c x y ihx ihy =>
   intro a s kn ke kr hs h
   unfold den at h
   split at h
   · rename_i n hn
     exact summ hs hn h
   · rename_i hn
     have hsum:sums (.cond c x y) a=sums x a.l++sums y a.r:=by conv=>lhs; unfold sums; simp only [hn]
     rw [hsum] at hs
     simp only [] at h
     split at h
     · rename_i g hg
       intro a1 w1 σ1 hr
       have hv:=hr.ev c
       rw [hg] at hv
       simp only [VR] at hv
       refine wp_cond_split hv (fun hb=>?_) (fun hb=>?_)
       · subst hb
         exact ihx a.l s kn ke kr (fun p hp=>hs p (List.mem_append_left _ hp)) h a1 w1 σ1 hr
       · subst hb
         exact ihy a.r s kn ke kr (fun p hp=>hs p (List.mem_append_right _ hp)) h a1 w1 σ1 hr
     · cases h
 | block id x ih =>
   intro a s kn ke kr hs h
   unfold den at h
   split at h
   · rename_i n hn
     exact summ hs hn h
   · rename_i hn
     have hsum:sums (.block id x) a=sums x a.l:=by conv=>lhs; unfold sums; simp only [hn]
     rw [hsum] at hs
     have hx:=ih a.l s _ _ kr hs h
     intro a1 w1 σ1 hr
     refine wp_block (Code.wp_mono ?_ (hx a1 w1 σ1 hr))
     rintro e a' w' ⟨s',σ',h1,hp⟩
     cases e with
     | normal => exact ⟨s',σ',h1,hp⟩
     | exit id' =>
       have hk:(bif Nat.beq id' id then kn s' else ke id' s')=some r:=hp
       simp only [Exit.inBlock]
       by_cases he:id'=id
       · subst he
         rw [if_pos rfl]
         simp only [Nat.beq_refl,cond_true] at hk
         exact ⟨s',σ',h1,hk⟩
       · rw [if_neg he]
         rw [beq_ne he] at hk
         exact ⟨s',σ',h1,hk⟩
     | ret => exact ⟨s',σ',h1,hp⟩
     | _ => exact hp.elim
 | exit id =>
   intro a s kn ke kr hs h
   unfold den at h
   split at h
   · rename_i n hn
     exact summ hs hn h
   · exact fun a w σ hr=>wp_exit ⟨s,σ,hr,h⟩
 | ret =>
   intro a s kn ke kr hs h
   unfold den at h
   split at h
   · rename_i n hn
     exact summ hs hn h
   · simp only [] at h
     split at h
     · rename_i x hx
       exact fun a w σ hr=>wp_ret ⟨s,σ,hr,x,hx,h⟩
     · cases h
 | loop x ih =>
   intro a s kn ke kr hs h
   unfold den at h
   split at h
   · rename_i n hn
     exact summ hs hn h
   · rename_i hn
     cases hu:a.unr with
     | none => rw [hu] at h; cases h
     | some p =>
       obtain ⟨n,b⟩:=p
       rw [hu] at h
       have hsum:sums (.loop x) a=sums x b:=by conv=>lhs; unfold sums; simp only [hn,hu]
       rw [hsum] at hs
       refine CW.loop (ι:=Nat×TS) (fun p=>p.2) (fun p=>unrF (fun s k=>den X x b s k ke kr) p.1 p.2=some r) (fun p=>p.1) ?_ (n,s) h
       rintro ⟨m,s1⟩ hm a1 w1 σ1 hr
       cases m with
       | zero => cases hm
       | succ m =>
         have hx:=ih b s1 (unrF (fun s k=>den X x b s k ke kr) m) ke kr hs hm a1 w1 σ1 hr
         refine Code.wp_mono ?_ hx
         rintro e a' w' ⟨s',σ',h1,h2⟩
         cases e with
         | normal => exact ⟨(m,s'),σ',h2,Nat.lt_succ_self m,h1⟩
         | exit id => exact ⟨s',σ',h1,h2⟩
         | ret => exact ⟨s',σ',h1,h2⟩
         | _ => exact h2.elim
 | _ =>
   intro a s kn ke kr hs h
   unfold den at h
   split at h
   · rename_i n hn
     exact summ hs hn h
   · cases h
 where
 summ {c:Code} {a:Ann} {s:TS} {kn:TS→Option R} {ke:Nat→TS→Option R} {kr:Rf→Option R} {n:Nat} (hs:∀ p∈sums c a,SummOK P X p.1 p.2) (hn:a.sum=some n)
     (h:(match X.Λ n with | some σ=>(match σ.dec s with | some x=>bnd (σ.m x) (fun o=>σ.cont x o kn ke kr) | none=>none) | none=>none)=some r):CW P U w0 σ0 K X.N c (PostT X kn ke kr r) s:=by
   have hm:(n,c)∈sums c a:=by
     unfold sums
     simp [hn]
   split at h
   · rename_i σ hσ
     split at h
     · rename_i x hx
       obtain ⟨o,ho,hc⟩:=qzo h
       exact hs (n,c) hm σ hσ U w0 σ0 K hK R s x o kn ke kr r hx ho hc
     · cases h
   · cases h
end
end Go.K
namespace Go.K
open Go.M Go.RowKit
mutual
inductive Sh where
 | d (fr:Bool) (t:Ty)
 | rp (fr:Bool) (t:Ty)
 | own (i:Nat)
 | kid (i f:Nat)
 | ptr (i:Nat)
 | mp (i:Nat)
 | e
 | fn (f:FuncId) (l:ShL)
 | agg (l:ShL)
 | nl (b:Bool) (s:Sh)
inductive ShL where
 | nil
 | cons (s:Sh) (l:ShL)
end
inductive Hs where
 | arr (ty:TypeId) (md:Md) (its:List TypeId) (t:Ty)
 | cs (ty:TypeId) (sz n:Nat) (l:ShL)
 | mp (kt vt:Ty)
mutual
def Sh.den:Sh→Type
 | .d _ t => t.den
 | .rp _ t => t.den
 | .own _ => Unit
 | .kid _ _ => Nat
 | .ptr _ => Unit
 | .mp _ => Unit
 | .e => Unit
 | .fn _ l => l.den
 | .agg l => l.den
 | .nl _ s => s.den
def ShL.den:ShL→Type
 | .nil => Unit
 | .cons s l => s.den×l.den
end
def Hs.den:Hs→Type
 | .arr _ _ _ t => List t.den
 | .cs _ _ _ l => l.den
 | .mp kt vt => List (kt.den×vt.den)
def slDen:List (Nat×Sh)→Type
 | [] => Unit
 | p :: l => p.2.den×slDen l
def hpDen:List Hs→Type
 | [] => Unit
 | p :: l => p.den×hpDen l
def valD (fr:Bool):(t:Ty)→t.den→TV
 | .int k, n => .int k n
 | .bool, b => .bool b
 | .str, s => .val (.string s)
 | .slice t, xs => .sl fr t xs
 | .struct l, x => .agg (l.cells fr x)
mutual
def Sh.enc:(s:Sh)→s.den→TV
 | .d fr t, x => valD fr t x
 | .rp fr t, x => .rptr fr t [x] (.ofNat 0) 0
 | .own i, _ => .own (.o i)
 | .kid i f, x => .own (.r i x f)
 | .ptr i, _ => .ptr (.o i) (.ofNat 0) 0
 | .mp i, _ => .mp (.o i)
 | .e, _ => .val (.slice none 0 0)
 | .fn f l, x => .fn f (l.enc x)
 | .agg l, x => .agg (l.enc x)
 | .nl b s, x => .nl b (s.enc x)
def ShL.enc:(l:ShL)→l.den→List TV
 | .nil, _ => []
 | .cons s l, x => s.enc x.1::l.enc x.2
end
def ShL.len:ShL→Nat
 | .nil => 0
 | .cons _ l => l.len+1
theorem ShL.enc_len:∀ (l:ShL) (x:l.den),(l.enc x).length=l.len
 | .nil, _ => rfl
 | .cons s l, x => by simp [ShL.enc,ShL.len,ShL.enc_len l x.2]
def Hs.enc:(h:Hs)→h.den→TOb
 | .arr ty md its t, xs => .arr ty md its t xs
 | .cs ty sz n l, x => .cs ty sz n (l.enc x)
 | .mp kt vt, es => .mp kt vt es
def slEnc:(l:List (Nat×Sh))→slDen l→List (Nat×TV)
 | [], _ => []
 | p :: l, x => (p.1,p.2.enc x.1)::slEnc l x.2
def hpEnc:(l:List Hs)→hpDen l→List TOb
 | [], _ => []
 | p :: l, x => p.enc x.1::hpEnc l x.2
structure Shp where
 sl:List (Nat×Sh)
 hp:List Hs
def Shp.den (h:Shp):Type:=slDen h.sl×hpDen h.hp
def Shp.enc (h:Shp) (x:h.den):TS:=⟨slEnc h.sl x.1,hpEnc h.hp x.2⟩
abbrev Rho:=List (Option Nat)
def rhoHas (tg:Nat):Rho→Bool
 | [] => false
 | some t :: l => Nat.beq t tg||rhoHas tg l
 | none :: l => rhoHas tg l
def rhoOk:Rho→Bool
 | [] => true
 | some t :: l => !rhoHas t l&&rhoOk l
 | none :: l => rhoOk l
def frOk (fr fr':Bool):Bool:=!fr||fr'
def lookT (H:List TOb):TG→Option (Bool×(v:Ty)×List v.den)
 | .o t =>
   match H[t]? with
   | some (.arr _ md _ u xs) =>
     match md with
     | .fz fr => some (fr||u.flat,⟨u,xs⟩)
     | .own => some (true,⟨u,xs⟩)
     | _ => none
   | _ => none
 | .r t i f =>
   match H[t]? with
   | some (.arr _ .own _ u xs) =>
     match inner u (xs.getD i u.dft) f with
     | some y => some (true,y)
     | none => none
   | _ => none
def lendV (bo:Bool) (ρ:Rho) (H:List TOb):TV→TV
 | .own T =>
   match lookT H T with
   | some (fr, ⟨u, xs⟩) => bif !rhoHas T.ob ρ then .sl (fr&&!bo) u xs else .any
   | none => .any
 | .ownS T off n =>
   match lookT H T with
   | some (fr, ⟨u, xs⟩) => bif !rhoHas T.ob ρ then .sl (fr&&!bo) u ((xs.drop off).take n) else .any
   | none => .any
 | .int k n => .int k n
 | .bool b => .bool b
 | .val u => .val u
 | .e0 => .e0
 | .sl fr t xs => .sl fr t xs
 | _ => .any
def lendL (bo:Bool) (ρ:Rho) (H:List TOb):List TV→List TV
 | [] => []
 | v :: l => lendV bo ρ H v::lendL bo ρ H l
def decP (fr:Bool) (t:Ty) (cs:List TV):Option t.den :=
 match t.pack1 cs with
 | some (x, g) => bif frOk fr g then some x else none
 | none => none
def csOf (H:List TOb):TV→Option (Nat×Nat×Nat×List TV)
 | .own (.o tg) => match H[tg]? with | some (.cs _ sz n cs)=>some (tg,sz,n,cs) | _=>none
 | _ => none
def decN (fr:Bool) (t:Ty) (n:Nat) (cs:List TV):Option (List t.den) :=
 match t.packN n cs with
 | some (xs, g) => bif frOk fr g then some xs else none
 | none => none
def decD (bo:Bool) (ρ:Rho) (H:List TOb) (fr:Bool):(t:Ty)→TV→Option t.den
 | .struct l, v => match v with | .agg cs=>decP fr (.struct l) (lendL bo ρ H cs) | _=>none
 | .int k, v => decP fr (.int k) [v]
 | .bool, v => decP fr .bool [v]
 | .str, v => decP fr .str [v]
 | .slice t,v =>
   match csOf H v with
   | some (tg, sz, n, cs) => bif !rhoHas tg ρ&&Nat.beq sz t.sz&&frOk fr (!bo) then decN fr t n (lendL bo ρ H cs) else none
   | none => decP fr (.slice t) [lendV bo ρ H v]
def castD {t u:Ty} (h:t=u) (x:t.den):u.den:=h ▸ x
def decRp (bo:Bool) (ρ:Rho) (H:List TOb) (fr:Bool) (t:Ty):TV→Option t.den
 | .rptr fr' t' [x] (.ofNat 0) 0 => match t'.eq? t with | some ⟨h⟩=>bif frOk fr fr' then some (castD h x) else none | none=>none
 | .ptr (.o tg) (.ofNat 0) 0 =>
   match H[tg]? with
   | some (.cs _ sz n cs) => bif !rhoHas tg ρ&&Nat.beq n 1&&Nat.beq sz t.sz&&frOk fr (!bo) then decP fr t (lendL bo ρ H cs) else none
   | _ => none
 | _ => none
mutual
def Sh.dec (bo:Bool) (ρ:Rho) (H:List TOb):(s:Sh)→TV→Option s.den
 | .d fr t, v => decD bo ρ H fr t v.st
 | .rp fr t, v => decRp bo ρ H fr t v.st
 | .own i,v =>
   match v.st with
   | .own (.o tg) => match ρ[i]? with | some (some t)=>bif Nat.beq t tg then some () else none | _=>none
   | .val (.slice none 0 0) => match ρ[i]? with | some none=>some () | _=>none
   | .e0 => match ρ[i]? with | some none=>some () | _=>none
   | _ => none
 | .kid i f,v =>
   match v.st with
   | .own (.r tg j f') => match ρ[i]? with | some (some t)=>bif Nat.beq t tg&&Nat.beq f' f then some j else none | _=>none
   | _ => none
 | .ptr i,v =>
   match v.st with
   | .ptr (.o tg) (.ofNat 0) 0 => match ρ[i]? with | some (some t)=>bif Nat.beq t tg then some () else none | _=>none
   | _ => none
 | .mp i,v =>
   match v.st with
   | .mp (.o tg) => match ρ[i]? with | some (some t)=>bif Nat.beq t tg then some () else none | _=>none
   | _ => none
 | .e, v => match v.st with | .val (.slice none 0 0)=>some () | _=>none
 | .fn f l, v => match v.st with | .fn f' cs=>bif Nat.beq f' f then l.dec bo ρ H cs else none | _=>none
 | .agg l, v => match v.st with | .agg cs=>l.dec bo ρ H cs | _=>none
 | .nl b s, v => bif v.isN b then s.dec bo ρ H v.st else none
def ShL.dec (bo:Bool) (ρ:Rho) (H:List TOb):(l:ShL)→List TV→Option l.den
 | .nil, cs => match cs with | []=>some () | _=>none
 | .cons s l,cs =>
   match cs with
   | v :: r => match s.dec bo ρ H v with | some x=>(match l.dec bo ρ H r with | some y=>some (x,y) | none=>none) | none=>none
   | [] => none
end
def mdOk:Md→Md→Bool
 | .fz fr, .fz fr' => frOk fr fr'
 | .own, .own => true
 | _, _ => false
def itsB:List TypeId→List TypeId→Bool
 | [], [] => true
 | a :: l, b :: m => Nat.beq a b&&itsB l m
 | _, _ => false
def mdArr:Md→Bool
 | .fz _ => true
 | .own => true
 | _ => false
def castM {kt vt kt' vt':Ty} (h1:kt'=kt) (h2:vt'=vt) (es:List (kt'.den×vt'.den)):List (kt.den×vt.den):=h1 ▸ h2 ▸ es
def Hs.dec (bo:Bool) (ρ:Rho) (H:List TOb) (o:Option Nat):(h:Hs)→Option h.den
 | .arr ty md its t =>
   match o with
   | none => bif mdArr md then some ([]:List t.den) else none
   | some tg =>
     match H[tg]? with
     | some (.arr ty' md' its' t' xs) => match t'.eq? t with | some ⟨h⟩=>bif Nat.beq ty' ty&&mdOk md md'&&itsB its' its then some (castL h xs) else none | none=>none
     | _ => none
 | .cs ty sz n l =>
   match o with
   | none => none
   | some tg =>
     match H[tg]? with
     | some (.cs ty' sz' n' ws) => bif Nat.beq ty' ty&&Nat.beq sz' sz&&Nat.beq n' n&&Nat.blt 0 n then l.dec bo ρ H ws else none
     | _ => none
 | .mp kt vt =>
   match o with
   | none => none
   | some tg =>
     match H[tg]? with
     | some (.mp kt' vt' es) =>
       match kt'.eq? kt,vt'.eq? vt with
       | some ⟨h1⟩, some ⟨h2⟩ => some (castM h1 h2 es)
       | _, _ => none
     | _ => none
def slDec (bo:Bool) (ρ:Rho) (s:TS):(l:List (Nat×Sh))→Option (slDen l)
 | [] => some ()
 | p :: l => match p.2.dec bo ρ s.H (getS s.S p.1) with | some x=>(match slDec bo ρ s l with | some y=>some (x,y) | none=>none) | none=>none
def hpDec (bo:Bool) (ρ:Rho) (H:List TOb):Rho→(l:List Hs)→Option (hpDen l)
 | [], [] => some ()
 | o :: os, p :: l => match p.dec bo ρ H o with | some x=>(match hpDec bo ρ H os l with | some y=>some (x,y) | none=>none) | none=>none
 | _, _ => none
mutual
def Sh.fnd:Sh→TV→Rho→Rho
 | .own i, v, ρ => match v.st with | .own (.o tg)=>ρ.set i (some tg) | _=>ρ
 | .kid i _, v, ρ => match v.st with | .own (.r tg _ _)=>ρ.set i (some tg) | _=>ρ
 | .ptr i, v, ρ => match v.st with | .ptr (.o tg) _ _=>ρ.set i (some tg) | _=>ρ
 | .mp i, v, ρ => match v.st with | .mp (.o tg)=>ρ.set i (some tg) | _=>ρ
 | .fn _ l, v, ρ => match v.st with | .fn _ cs=>l.fnd cs ρ | _=>ρ
 | .agg l, v, ρ => match v.st with | .agg cs=>l.fnd cs ρ | _=>ρ
 | .nl _ s, v, ρ => s.fnd v.st ρ
 | _, _, ρ => ρ
def ShL.fnd:ShL→List TV→Rho→Rho
 | .cons s l, v :: r, ρ => l.fnd r (s.fnd v ρ)
 | _, _, ρ => ρ
end
def slFnd (S:List (Nat×TV)):List (Nat×Sh)→Rho→Rho
 | [], ρ => ρ
 | p :: l, ρ => slFnd S l (p.2.fnd (getS S p.1) ρ)
def hpFnd (H:List TOb):Nat→List Hs→Rho→Rho
 | _, [], ρ => ρ
 | i, .cs _ _ _ l :: hs, ρ => hpFnd H (i+1) hs (match ρ[i]? with | some (some tg)=>(match H[tg]? with | some (.cs _ _ _ cs)=>l.fnd cs ρ | _=>ρ) | _=>ρ)
 | i, _ :: hs, ρ => hpFnd H (i+1) hs ρ
def rhoKp:Nat→List Bool→Rho→Rho
 | _, [], ρ => ρ
 | t, k :: kp, ρ => rhoKp (t+1) kp (bif k then ρ.set t (some t) else ρ)
def kpOk:Nat→List Bool→Rho→Bool
 | _, [], _ => true
 | t, true :: kp, ρ => (match ρ[t]? with | some (some t')=>Nat.beq t' t | _=>false)&&kpOk (t+1) kp ρ
 | t, false :: kp, ρ => kpOk (t+1) kp ρ
def cutS (N:Nat) (kp:List Bool) (p:Nat) (s:TS):TS :=
 match getS s.S p with
 | .ownS (.o t) off n =>
   match s.H[t]? with
   | some (.arr ty (.fz fr) its u xs) => bif !keptB kp t&&Nat.blt p N&&Nat.blt 0 u.sz then ⟨(p,.own (.o t))::sbS (killO t) s.S,(sbH (killO t) s.H).set t (.arr ty (.fz fr) its u ((xs.drop off).take n))⟩ else s
   | _ => s
 | _ => s
def cuts (N:Nat) (kp:List Bool):List (Nat×Sh)→TS→TS
 | [], s => s
 | (p, .own _) :: l, s => cuts N kp l (cutS N kp p s)
 | _ :: l, s => cuts N kp l s
def cutB (kp:List Bool) (tb j:Nat) (s:TS):TS :=
 match s.H[tb]? with
 | some (.cs ty sz n cs) =>
   match cs.getD j .any with
   | .ownS (.o t) off m =>
     match s.H[t]? with
     | some (.arr ty2 (.fz fr) its u xs) =>
       bif !keptB kp t&&Nat.beq n 1&&Nat.blt j sz&&!Nat.beq t tb&&Nat.blt 0 u.sz then ⟨sbS (killO t) s.S,((sbH (killO t) s.H).set t (.arr ty2 (.fz fr) its u ((xs.drop off).take m))).set tb (.cs ty sz n ((TV.sbL (killO t) cs).set j (.own (.o t))))⟩ else s
     | _ => s
   | _ => s
 | _ => s
def isPart:TV→Bool
 | .ownS _ _ _ => true
 | _ => false
def cutCs (kp:List Bool) (tb:Nat):Nat→List TV→TS→TS
 | _, [], s => s
 | j, v :: l, s => cutCs kp tb (j+1) l (bif isPart v then cutB kp tb j s else s)
def cutHs (kp:List Bool):Nat→List TOb→TS→TS
 | _, [], s => s
 | tb, .cs _ _ _ cs :: l, s => cutHs kp (tb+1) l (cutCs kp tb 0 cs s)
 | tb, _ :: l, s => cutHs kp (tb+1) l s
def hasCs:List Hs→Bool
 | [] => false
 | .cs _ _ _ _ :: _ => true
 | _ :: l => hasCs l
def cutA (N:Nat) (kp:List Bool) (h:Shp) (s:TS):TS:=bif hasCs h.hp then cutHs kp 0 s.H (cuts N kp h.sl s) else cuts N kp h.sl s
def Shp.rho (kp:List Bool) (h:Shp) (s:TS):Rho:=hpFnd s.H 0 h.hp (slFnd s.S h.sl (rhoKp 0 kp (List.replicate h.hp.length none)))
def Shp.decR (bo:Bool) (h:Shp) (s:TS) (ρ:Rho):Option h.den :=
 bif rhoOk ρ then
   match slDec bo ρ s h.sl with
   | some x => (match hpDec bo ρ s.H ρ h.hp with | some y=>some (x,y) | none=>none)
   | none => none
 else none
def Shp.dec (N:Nat) (kp:List Bool) (h:Shp) (s:TS):Option h.den :=
 bif kpOk 0 kp (h.rho kp (cutA N kp h s)) then h.decR false (cutA N kp h s) (h.rho kp (cutA N kp h s)) else none
end Go.K
namespace Go.K
open Go.M Go.RowKit
variable {F:Nat→Prop}
theorem qsc {tg:Nat}:∀ {ρ:Rho},rhoHas tg ρ=true↔some tg∈ρ
 | [] => by simp [rhoHas]
 | some t :: l => by
   simp only [rhoHas,Bool.or_eq_true,List.mem_cons,Option.some.injEq,qsc (ρ:=l)]
   exact ⟨fun h=>h.imp (fun e=>(beq_eq e).symm) id,fun h=>h.imp (fun e=>by rw [e]; exact Nat.beq_refl _) id⟩
 | none :: l => by
   simp only [rhoHas,List.mem_cons,reduceCtorEq,false_or,qsc (ρ:=l)]
theorem qmt {tg:Nat} {ρ:Rho}:rhoHas tg ρ=false↔some tg∉ρ:=by
 rw [← qsc (ρ:=ρ)]
 cases rhoHas tg ρ<;>simp
theorem q11g:∀ {ρ:Rho},rhoOk ρ=true→∀ {i j tg:Nat},ρ[i]? = some (some tg)→ρ[j]? = some (some tg)→i=j
 | [], _, i, j, tg, h, _ => by simp at h
 | some t :: l, hok, i, j, tg, h1, h2 => by
   simp only [rhoOk,Bool.and_eq_true,Bool.not_eq_true'] at hok
   cases i with
   | zero =>
     cases j with
     | zero => rfl
     | succ j =>
       simp at h1
       subst h1
       exact absurd (List.mem_of_getElem? (show l[j]? = some (some t) by simpa using h2)) (qmt.1 hok.1)
   | succ i =>
     cases j with
     | zero =>
       simp at h2
       subst h2
       exact absurd (List.mem_of_getElem? (show l[i]? = some (some t) by simpa using h1)) (qmt.1 hok.1)
     | succ j => rw [q11g hok.2 (i:=i) (j:=j) (by simpa using h1) (by simpa using h2)]
 | none :: l, hok, i, j, tg, h1, h2 => by
   cases i with
   | zero => simp at h1
   | succ i =>
     cases j with
     | zero => simp at h2
     | succ j => rw [q11g (ρ:=l) hok (i:=i) (j:=j) (by simpa using h1) (by simpa using h2)]
def rePl (ρ:Rho) (σ:Pl):Pl:=fun T=>match ρ[T.ob]? with | some (some tg)=>σ (T.at tg) | _=>none
theorem qgb {ρ:Rho} {σ:Pl} {T:TG} {p:Nat×Nat} (h:rePl ρ σ T=some p):∃ tg,ρ[T.ob]? = some (some tg)∧σ (T.at tg)=some p:=by
 unfold rePl at h
 split at h
 · rename_i tg e; exact ⟨tg,e,h⟩
 · cases h
theorem qh9 {ρ:Rho} {σ:Pl} {T:TG} {tg:Nat} (h:ρ[T.ob]? = some (some tg)):rePl ρ σ T=σ (T.at tg):=by simp only [rePl,h]
section
variable {U U':Nat→Prop} {w0:World} {σ0:Pl} {K:Nat→Bool} {H Hv H':List TOb} {w:World} {σ:Pl} {ρ:Rho} {bo:Bool}
structure Cv (U U':Nat→Prop) (w0:World) (σ0:Pl) (K:Nat→Bool) (H Hv H':List TOb) (w:World) (σ:Pl) (ρ:Rho) (bo:Bool):Prop where
 hr:HR U w0 σ0 K (vw H) w σ
 le:HLe (fun _=>False) Hv H
 ok:rhoOk ρ=true
 u:∀ b,U' b→U b∨owned σ b
 nb:bo=false→∀ b,U' b→U b
 dim:∀ i tg,ρ[i]? = some (some tg)→infoV (vw H') (.o i)=infoV (vw H) (.o tg)
 nil:∀ i,ρ[i]? = some none→∃ sz,infoV (vw H') (.o i)=some (0,sz)
 kdim:∀ i tg,ρ[i]? = some (some tg)→∀ j f q,infoV (vw H) (.r tg j f)=some q→infoV (vw H') (.r i j f)=some q
theorem Cv.x (_h:Cv U U' w0 σ0 K H Hv H' w σ ρ bo) {b:Nat} (hb:owned (rePl ρ σ) b):owned σ b:=by
 obtain ⟨T,o,hT⟩:=hb
 obtain ⟨tg,_,h2⟩:=qgb hT
 exact ⟨_,o,h2⟩
theorem Cv.low (h:Cv U U' w0 σ0 K H Hv H' w σ ρ bo) (fr:Bool):Low w (YY (owned σ) U fr) w (YY (owned (rePl ρ σ)) U' fr):=by
 refine ⟨Nat.le_refl _,fun b _ hY hY'=>hY ?_,fun _ _ _=>rfl⟩
 rcases hY' with e | ⟨e1,e2⟩
 · exact .inl (h.x e)
 · rcases h.u b e2 with e | e
   · exact .inr ⟨e1,e⟩
   · exact .inl e
theorem Cv.out (h:Cv U U' w0 σ0 K H Hv H' w σ ρ bo) {T:TG} (hT:rhoHas T.ob ρ=false) {g o:Nat} (hσ:σ T=some (g,o)) {fr:Bool} (hf:fr=true→bo=false):¬ YY (owned (rePl ρ σ)) U' fr g:=by
 rintro (⟨T',o',hT'⟩ | ⟨e1,e2⟩)
 · obtain ⟨tg,h1,h2⟩:=qgb hT'
   have:=h.hr.inj _ _ _ _ _ hσ h2
   rw [this,TG.at_ob] at hT
   exact qmt.1 hT (List.mem_of_getElem? h1)
 · exact (h.hr.own _ _ _ hσ).1 (h.nb (hf e1) g e2)
theorem Cv.row (h:Cv U U' w0 σ0 K H Hv H' w σ ρ bo) {T:TG} {fr:Bool} {u:Ty} {xs:List u.den} (hl:lookT Hv T=some (fr,⟨u,xs⟩)) (hT:rhoHas T.ob ρ=false) :
   (∀ q,infoV (vw H) T=some q→q=(xs.length,u.sz))∧∀ g o,σ T=some (g,o)→RowC w (YY (owned (rePl ρ σ)) U' (fr&&!bo)) u xs g o:=by
 have hfb:(fr&&!bo)=true→bo=false:=fun e=>by simp only [Bool.and_eq_true,Bool.not_eq_true'] at e; exact e.2
 have hlow:∀ fr0,((fr&&!bo)=true→fr0=true)→Low w (YY (owned σ) U fr0) w (YY (owned (rePl ρ σ)) U' (fr&&!bo)):=by
   intro fr0 h0
   refine ⟨Nat.le_refl _,fun b hb hY hY'=>(h.low (fr&&!bo)).ex b hb (fun hY2=>hY ?_) hY',fun _ _ _=>rfl⟩
   rcases hY2 with e | ⟨e1,e2⟩
   · exact .inl e
   · exact .inr ⟨h0 e1,e2⟩
 cases T with
 | o t =>
   simp only [lookT] at hl
   split at hl
   · rename_i ty md its u' xs' hov
     have ho:=h.le.ob hov
     split at hl
     · rename_i fr'
       simp only [Option.some.injEq,Prod.mk.injEq,Sigma.mk.injEq] at hl
       obtain ⟨rfl,rfl,hx⟩:=hl
       have hx:=eq_of_heq hx
       subst hx
       refine ⟨fun q hq=>by simp only [infoV,vw_arr ho,Option.map_some,Option.some.injEq] at hq; exact hq.symm,fun g o hσ=>?_⟩
       have hob:=h.hr.obj _ _ (vw_arr ho)
       rw [hσ] at hob
       refine OR.row hob (h.hr.lt hσ) (h.out hT hσ hfb) rfl rfl fun j f hj hf y hV=>?_
       simp only [q4d] at hV
       have hC:=(Ty.C_iff (gr U (vw H) w σ) fr' u' _ f y hf).2 hV
       by_cases hfl:u'.flat=true
       · exact Ty.C_flat u' _ f y hfl hC
       · refine Ty.C_low (hlow fr' (fun e=>?_)) u' _ f y hC
         simp only [Bool.and_eq_true,Bool.or_eq_true] at e
         exact e.1.resolve_right hfl
     · simp only [Option.some.injEq,Prod.mk.injEq,Sigma.mk.injEq] at hl
       obtain ⟨rfl,rfl,hx⟩:=hl
       have hx:=eq_of_heq hx
       subst hx
       refine ⟨fun q hq=>by simp only [infoV,vw_arr ho,Option.map_some,Option.some.injEq] at hq; exact hq.symm,fun g o hσ=>?_⟩
       have hob:=h.hr.obj _ _ (vw_arr ho)
       rw [hσ] at hob
       refine OR.row hob (h.hr.lt hσ) (h.out hT hσ hfb) rfl rfl fun j f hj hf y hV=>?_
       exact kid_C h.hr ho (hlow true fun _=>rfl) (fun i f g o hk=>h.out (T:=.r t i f) hT hk hfb) hj hf hV
     · cases hl
   · cases hl
 | r t i f =>
   simp only [lookT] at hl
   split at hl
   · rename_i ty its u' xs' hov
     have ho:=h.le.ob hov
     split at hl
     · rename_i y hin
       simp only [Option.some.injEq,Prod.mk.injEq] at hl
       obtain ⟨rfl,rfl⟩:=hl
       have hinfo:∀ q,infoV (vw H) (.r t i f)=some q→i < xs'.length∧q=(xs.length,u.sz):=by
         intro q hq
         simp only [infoV,vw_r ho] at hq
         split at hq
         · rename_i hc
           rw [hin] at hq
           simp only [kv,Option.map_some,Option.some.injEq] at hq
           exact ⟨hc.2,hq.symm⟩
         · cases hq
       refine ⟨fun q hq=>(hinfo q hq).2,fun g o hσ=>?_⟩
       obtain ⟨v,hv⟩:=h.hr.dom _ _ hσ
       have hi:=(hinfo _ (by simp only [infoV,hv]; rfl)).1
       exact q12i h.hr ho rfl (hlow true fun _=>rfl) hi hin hσ (h.out (T:=.r t i f) hT hσ hfb)
     · cases hl
   · cases hl
theorem Cv.lend (h:Cv U U' w0 σ0 K H Hv H' w σ ρ bo):∀ (A:TV) (v:Value),VR (gr U (vw H) w σ) A v→VR (gr U' (vw H') w (rePl ρ σ)) (lendV bo ρ Hv A) v
 | .own T, v, hv => by
   simp only [lendV]
   split
   · rename_i fr u xs hl
     cases hb:rhoHas T.ob ρ with
     | true => simp [hb,VR]
     | false =>
       obtain ⟨h1,h2⟩:=h.row hl hb
       obtain ⟨n,sz,hI,hs⟩:=hv
       have:=h1 _ hI
       simp only [Prod.mk.injEq] at this
       obtain ⟨rfl,rfl⟩:=this
       have h3:=SlR.fz (off:=0) (n:=xs.length) (by omega) h2 hs
       simp only [List.drop_zero,List.take_length] at h3
       exact h3
   · trivial
 | .ownS T off m, v, hv => by
   simp only [lendV]
   split
   · rename_i fr u xs hl
     cases hb:rhoHas T.ob ρ with
     | true => simp [hb,VR]
     | false =>
       obtain ⟨h1,h2⟩:=h.row hl hb
       obtain ⟨n,sz,hI,hle,hs⟩:=hv
       have:=h1 _ hI
       simp only [Prod.mk.injEq] at this
       obtain ⟨rfl,rfl⟩:=this
       exact SlR.fz hle h2 hs
   · trivial
 | .int k n, v, hv => hv
 | .bool b, v, hv => hv
 | .val u, v, hv => hv
 | .e0, v, hv => hv
 | .sl fr t xs, v, hv => Ty.C_low (h.low fr) (.slice t) xs 0 v hv
 | .any, _, _ => trivial
 | .rptr _ _ _ _ _, _, _ => trivial
 | .ptr _ _ _, _, _ => trivial
 | .mp _, _, _ => trivial
 | .fn _ _, _, _ => trivial
 | .agg _, _, _ => trivial
 | .tup _, _, _ => trivial
 | .cond _ _, _, _ => trivial
 | .nl _ _, _, _ => trivial
theorem qz8 (bo:Bool) (ρ:Rho) (H:List TOb):∀ (cs:List TV) (j:Nat),(lendL bo ρ H cs).getD j .any=lendV bo ρ H (cs.getD j .any)
 | [], j => by simp [lendL,lendV]
 | v :: l, 0 => by simp [lendL]
 | v :: l, j + 1 => by simpa [lendL] using qz8 bo ρ H l j
theorem q1ae (bo:Bool) (ρ:Rho) (H:List TOb):∀ (cs:List TV),(lendL bo ρ H cs).length=cs.length
 | [] => rfl
 | v :: l => by simp [lendL,q1ae bo ρ H l]
theorem qy0 {fr g:Bool} (h:frOk fr g=true):fr=true→g=true:=by
 intro e
 subst e
 simpa [frOk] using h
theorem qsk {G:Gr} {fr:Bool} {t:Ty} {cs:List TV} {x:t.den} (h:decP fr t cs=some x):cs.length=t.sz∧∀ f,f < t.sz→∀ y,VR G (cs.getD f .any) y→VR G ((t.cells fr x).getD f .any) y:=by
 unfold decP at h
 split at h
 · rename_i x' g hp
   obtain ⟨hb,h⟩:=q4 h
   cases h
   obtain ⟨h1,h2⟩:=Ty.pack1_ok (G:=G) hp
   exact ⟨h1,fun f hf y hy=>(Ty.C_iff G fr t x f y hf).1 (Ty.C_fr (qy0 hb) (h2 f hf y hy))⟩
 · cases h
theorem q1ic (h:Cv U U' w0 σ0 K H Hv H' w σ ρ bo) {fr:Bool}:∀ {t:Ty} {A:TV} {x:t.den},decD bo ρ Hv fr t A=some x→∀ {v:Value},VR (gr U (vw H) w σ) A v→VR (gr U' (vw H') w (rePl ρ σ)) (valD fr t x) v
 | .struct l, A, x, hd, v, hv => by
   cases A
   case agg cs =>
     have hd:decP fr (.struct l) (lendL bo ρ Hv cs)=some x:=hd
     obtain ⟨h1,h2⟩:=qsk (G:=gr U' (vw H') w (rePl ρ σ)) hd
     obtain ⟨vs,rfl,hvs,h3⟩:=hv
     rw [q1ae] at h1
     refine ⟨vs,rfl,VRL.of ?_ (fun j B y hB hy=>?_),h3⟩
     · rw [hvs.len,h1]
       exact (TyL.cells_len fr l x).symm
     · have hj:j < (Ty.struct l).sz:=by
         have:=(List.getElem?_eq_some_iff.1 hB).1
         exact Nat.lt_of_lt_of_eq this (TyL.cells_len fr l x)
       obtain ⟨y',hy',hV⟩:=hvs.getD j (by omega)
       rw [hy] at hy'
       cases hy'
       have h4:=h2 j hj y (by rw [qz8]; exact h.lend _ _ hV)
       have e:(Ty.cells fr (.struct l) x).getD j .any=B:=by
         have hB':(Ty.cells fr (.struct l) x)[j]? = some B:=hB
         rw [List.getD_eq_getElem?_getD,hB']
         rfl
       rw [e] at h4
       exact h4
   all_goals cases hd
 | .int k, A, x, hd, v, hv => by
   have hd:decP fr (.int k) [A]=some x:=hd
   have hd':decP fr (.int k) [lendV bo ρ Hv A]=some x:=by
     cases A<;>first | exact hd | (simp [decP,Ty.pack1,Ty.pack] at hd)
   exact (qsk (G:=gr U' (vw H') w (rePl ρ σ)) hd').2 0 (by simp [Ty.sz]) v (h.lend _ _ hv)
 | .bool, A, x, hd, v, hv => by
   have hd:decP fr .bool [A]=some x:=hd
   have hd':decP fr .bool [lendV bo ρ Hv A]=some x:=by
     cases A<;>first | exact hd | (simp [decP,Ty.pack1,Ty.pack] at hd)
   exact (qsk (G:=gr U' (vw H') w (rePl ρ σ)) hd').2 0 (by simp [Ty.sz]) v (h.lend _ _ hv)
 | .str, A, x, hd, v, hv => by
   have hd:decP fr .str [A]=some x:=hd
   have hd':decP fr .str [lendV bo ρ Hv A]=some x:=by
     cases A<;>first | exact hd | (simp [decP,Ty.pack1,Ty.pack] at hd)
   exact (qsk (G:=gr U' (vw H') w (rePl ρ σ)) hd').2 0 (by simp [Ty.sz]) v (h.lend _ _ hv)
 | .slice t, A, x, hd, v, hv => by
   have hd:(match csOf Hv A with | some (tg,sz,n,cs)=>bif !rhoHas tg ρ&&Nat.beq sz t.sz&&frOk fr (!bo) then decN fr t n (lendL bo ρ Hv cs) else none | none=>decP fr (.slice t) [lendV bo ρ Hv A])=some x:=hd
   split at hd
   · rename_i tg sz n cs hcs
     have hb:=(q4 hd).1
     replace hd:=(q4 hd).2
     simp only [Bool.and_eq_true,Bool.not_eq_true'] at hb
     obtain ⟨⟨hb1,hb2⟩,hb3⟩:=hb
     unfold csOf at hcs
     split at hcs
     · rename_i tg'
       split at hcs
       · rename_i ty sz' n' cs' hov
         simp only [Option.some.injEq,Prod.mk.injEq] at hcs
         obtain ⟨rfl,rfl,rfl,rfl⟩:=hcs
         have ho:=h.le.obc hov
         have hsz:=beq_eq hb2
         subst hsz
         unfold decN at hd
         split at hd
         · rename_i xs g hpk
           have hg:=(q4 hd).1
           have hx:xs=x:=Option.some.inj (q4 hd).2
           clear hd
           subst hx
           obtain ⟨q1,q2,q3⟩:=Ty.packN_ok (G:=gr U' (vw H') w (rePl ρ σ)) hpk
           have hO:vw H (.o tg')=some ⟨ty,t.sz,n',fun i f=>cs'.getD (i*t.sz+f) .any⟩:=by simp [vw,ho,vwO]
           obtain ⟨m,sz2,hI,hs⟩:=hv
           have hI':infoV (vw H) (.o tg')=some (m,sz2):=hI
           simp only [infoV,hO,Option.map_some,Option.some.injEq,Prod.mk.injEq] at hI'
           obtain ⟨rfl,rfl⟩:=hI'
           have hrow:∀ g' o,σ (.o tg')=some (g',o)→RowC w (YY (owned (rePl ρ σ)) U' fr) t xs g' o:=by
             intro g' o hσ
             have hob:=h.hr.obj _ _ hO
             rw [hσ] at hob
             refine OR.row hob (h.hr.lt hσ) (h.out (T:=.o tg') hb1 hσ (fun e=>by simpa [frOk,e] using hb3)) rfl q1.symm fun i f hi hf y hV=>?_
             have h1:=q3 i f (by omega) hf y (by rw [qz8]; exact h.lend _ _ hV)
             exact Ty.C_fr (G:=gr U' (vw H') w (rePl ρ σ)) (qy0 hg) h1
           have h3:=SlR.fz (off:=0) (n:=xs.length) (by omega) hrow (by rw [q1]; exact hs)
           simp only [List.drop_zero,List.take_length] at h3
           exact h3
         · cases hd
       · cases hcs
     · cases hcs
   · exact (qsk (G:=gr U' (vw H') w (rePl ρ σ)) (show decP fr (.slice t) [lendV bo ρ Hv A]=some x from hd)).2 0 (by simp [Ty.sz]) v (h.lend _ _ hv)
end
end Go.K
namespace Go.K
open Go.M Go.RowKit
section
variable {U U':Nat→Prop} {w0:World} {σ0:Pl} {K:Nat→Bool} {H Hv H':List TOb} {w:World} {σ:Pl} {ρ:Rho} {bo:Bool}
theorem q1h9 (h:Cv U U' w0 σ0 K H Hv H' w σ ρ bo) {fr:Bool} {t:Ty} {A:TV} {x:t.den} (hd:decRp bo ρ Hv fr t A=some x) {v:Value} (hv:VR (gr U (vw H) w σ) A v):VR (gr U' (vw H') w (rePl ρ σ)) (.rptr fr t [x] (.ofNat 0) 0) v:=by
 unfold decRp at hd
 split at hd
 · rename_i fr' t' x'
   split at hd
   · rename_i he _
     obtain ⟨hb,hd⟩:=q4 hd
     subst he
     cases hd
     obtain ⟨b,o,rfl,hrow⟩:=hv
     refine ⟨b,o,rfl,?_⟩
     refine RowC.low (w:=w) (w':=w) ⟨Nat.le_refl _,fun b hb' hY hY'=>(h.low fr).ex b hb' (fun hY2=>hY ?_) hY',fun _ _ _=>rfl⟩ hrow
     rcases hY2 with e | ⟨e1,e2⟩
     · exact .inl e
     · exact .inr ⟨qy0 hb e1,e2⟩
   · cases hd
 · rename_i tg
   split at hd
   · rename_i ty sz n cs hov
     have hb:=(q4 hd).1
     replace hd:=(q4 hd).2
     simp only [Bool.and_eq_true,Bool.not_eq_true'] at hb
     obtain ⟨⟨⟨hb1,hb2⟩,hb3⟩,hb4⟩:=hb
     have hn:=beq_eq hb2
     have hsz:=beq_eq hb3
     subst hn
     subst hsz
     obtain ⟨h1,h2⟩:=qsk (G:=gr U' (vw H') w (rePl ρ σ)) hd
     obtain ⟨g,o,n,sz,hσ,hI,rfl⟩:=hv
     have hvw:=vw_cs (h.le.obc hov)
     have hI':infoV (vw H) (.o tg)=some (n,sz):=hI
     simp only [infoV,hvw,Option.map_some,Option.some.injEq,Prod.mk.injEq] at hI'
     obtain ⟨rfl,rfl⟩:=hI'
     have hob:=h.hr.obj _ _ hvw
     have hσ':σ (.o tg)=some (g,o):=hσ
     rw [hσ'] at hob
     refine ⟨g,o,rfl,h.hr.lt hσ',h.out (T:=.o tg) hb1 hσ' (fun e=>by have:=qy0 hb4 e; simpa using this),fun i f hi hf=>?_⟩
     obtain rfl:i=0:=by simpa using hi
     obtain ⟨cur,c,hc1,hc2,hc3,hc4⟩:=hob.cells (.inr (Nat.zero_lt_one))
     obtain ⟨y,hy,h3,hV⟩:=hc4 0 f (by simp) hf
     refine ⟨y,?_,h3,?_⟩
     · have hc1':w.heap[g]? = some (.cells cur ty (0,0)):=hc1
       show w.cell? _=_
       rw [cell_of_row _ _ _ cur ty (0,0) hc1']
       exact hy
     · simp only [List.getD_cons_zero]
       refine (Ty.C_iff (gr U' (vw H') w (rePl ρ σ)) fr t x f y hf).2 (h2 f hf y ?_)
       rw [qz8]
       refine h.lend _ _ ?_
       simpa using hV
   · cases hd
 · cases hd
theorem VR.st {G:Gr} {A:TV} {v:Value} (h:VR G A v):VR G A.st v:=by
 cases A<;>first | exact h | exact h.1
mutual
theorem Sh.dec_ok (h:Cv U U' w0 σ0 K H Hv H' w σ ρ bo):∀ (s:Sh) (A:TV) (x:s.den),s.dec bo ρ Hv A=some x→∀ v,VR (gr U (vw H) w σ) A v→VR (gr U' (vw H') w (rePl ρ σ)) (s.enc x) v
 | .d fr t, A, x, hd, v, hv => q1ic h hd hv.st
 | .rp fr t, A, x, hd, v, hv => q1h9 h hd hv.st
 | .own i, A, x, hd, v, hv => by
   have nilCase:ρ[i]? = some none→(∃ a,v=.slice a 0 0)→VR (gr U' (vw H') w (rePl ρ σ)) (.own (.o i)) v:=by
     rintro hi ⟨a,rfl⟩
     obtain ⟨sz,hs⟩:=h.nil i hi
     exact ⟨0,sz,hs,.inl ⟨a,rfl,rfl⟩⟩
   unfold Sh.dec at hd
   replace hv:=hv.st
   generalize A.st=A' at hd hv
   split at hd
   · rename_i tg
     split at hd
     · rename_i t hi
       obtain ⟨hb,hd⟩:=q4 hd
       have hb:=beq_eq hb
       subst hb
       obtain ⟨n,sz,hI,hs⟩:=hv
       refine ⟨n,sz,(h.dim i t hi).trans hI,?_⟩
       rcases hs with hs | ⟨g,o,c,cur,e,hσ,h1,h2,h3,h4,h5⟩
       · exact .inl hs
       · exact .inr ⟨g,o,c,cur,e,(qh9 (T:=.o i) hi).trans hσ,h1,h2,h3,h4,h5⟩
     · cases hd
   · split at hd
     · rename_i hi; exact nilCase hi ⟨none,hv⟩
     · cases hd
   · split at hd
     · rename_i hi; exact nilCase hi hv
     · cases hd
   · cases hd
 | .kid i f, A, x, hd, v, hv => by
   unfold Sh.dec at hd
   replace hv:=hv.st
   generalize A.st=A' at hd hv
   split at hd
   · rename_i tg j f'
     split at hd
     · rename_i t hi
       have hbd:=q4 hd
       clear hd
       obtain ⟨hb,hd2⟩:=hbd
       simp only [Bool.and_eq_true] at hb
       have hb1:=beq_eq hb.1
       have hb2:=beq_eq hb.2
       subst hb1
       subst hb2
       cases hd2
       obtain ⟨n,sz,hI,hs⟩:=hv
       refine ⟨n,sz,h.kdim i t hi j f' _ hI,?_⟩
       rcases hs with hs | ⟨g,o,c,cur,e,hσ,h1,h2,h3,h4,h5⟩
       · exact .inl hs
       · exact .inr ⟨g,o,c,cur,e,(qh9 (T:=.r i j f') hi).trans hσ,h1,h2,h3,h4,h5⟩
     · cases hd
   · cases hd
 | .ptr i, A, x, hd, v, hv => by
   unfold Sh.dec at hd
   replace hv:=hv.st
   generalize A.st=A' at hd hv
   split at hd
   · rename_i tg
     split at hd
     · rename_i t hi
       obtain ⟨hb,hd⟩:=q4 hd
       have hb:=beq_eq hb
       subst hb
       obtain ⟨g,o,n,sz,hσ,hI,h1⟩:=hv
       exact ⟨g,o,n,sz,(qh9 (T:=.o i) hi).trans hσ,(h.dim i t hi).trans hI,h1⟩
     · cases hd
   · cases hd
 | .e, A, x, hd, v, hv => by
   unfold Sh.dec at hd
   replace hv:=hv.st
   generalize A.st=A' at hd hv
   split at hd
   · exact hv
   · cases hd
 | .mp i, A, x, hd, v, hv => by
   unfold Sh.dec at hd
   replace hv:=hv.st
   generalize A.st=A' at hd hv
   split at hd
   · rename_i tg
     split at hd
     · rename_i t hi
       obtain ⟨hb,hd⟩:=q4 hd
       have hb:=beq_eq hb
       subst hb
       obtain ⟨g,o,q,hσ,hI,h1⟩:=hv
       exact ⟨g,o,q,(qh9 (T:=.o i) hi).trans hσ,(h.dim i t hi).trans hI,h1⟩
     · cases hd
   · cases hd
 | .fn f l, A, x, hd, v, hv => by
   unfold Sh.dec at hd
   replace hv:=hv.st
   generalize A.st=A' at hd hv
   split at hd
   · rename_i f' cs
     obtain ⟨hb,hd⟩:=q4 hd
     have hb:=beq_eq hb
     subst hb
     obtain ⟨vs,h1,h2⟩:=hv
     exact ⟨vs,h1,ShL.dec_ok h l cs x hd vs h2⟩
   · cases hd
 | .nl b s, A, x, hd, v, hv => by
   unfold Sh.dec at hd
   obtain ⟨hb,hd⟩:=q4 hd
   exact ⟨Sh.dec_ok h s _ x hd v hv.st,q1ga hb hv⟩
 | .agg l, A, x, hd, v, hv => by
   replace hv:=hv.st
   unfold Sh.dec at hd
   generalize A.st=A at hd hv
   cases A
   case agg cs =>
     have hd:l.dec bo ρ Hv cs=some x:=hd
     obtain ⟨vs,h1,h2,h3⟩:=hv
     exact ⟨vs,h1,ShL.dec_ok h l cs x hd vs h2,h3⟩
   all_goals cases hd
theorem ShL.dec_ok (h:Cv U U' w0 σ0 K H Hv H' w σ ρ bo):∀ (l:ShL) (cs:List TV) (x:l.den),l.dec bo ρ Hv cs=some x→∀ vs,VRL (gr U (vw H) w σ) cs vs→VRL (gr U' (vw H') w (rePl ρ σ)) (l.enc x) vs
 | .nil, cs, x, hd, vs, hv => by
   unfold ShL.dec at hd
   split at hd
   · exact hv
   · cases hd
 | .cons s l, cs, x, hd, vs, hv => by
   unfold ShL.dec at hd
   split at hd
   · rename_i A r
     split at hd
     · rename_i x1 hx
       split at hd
       · rename_i y hy
         cases hd
         obtain ⟨u,m,rfl,h1,h2⟩:=hv
         exact ⟨u,m,rfl,Sh.dec_ok h s A x1 hx u h1,ShL.dec_ok h l r y hy m h2⟩
       · cases hd
     · cases hd
   · cases hd
end
theorem ShL.dec_at (h:Cv U U' w0 σ0 K H Hv H' w σ ρ bo):∀ (l:ShL) (cs:List TV) (x:l.den),l.dec bo ρ Hv cs=some x→∀ (j:Nat) v,VR (gr U (vw H) w σ) (cs.getD j .any) v→VR (gr U' (vw H') w (rePl ρ σ)) ((l.enc x).getD j .any) v
 | .nil, cs, x, hd, j, v, hv => by simp [ShL.enc,VR]
 | .cons s l, cs, x, hd, j, v, hv => by
   unfold ShL.dec at hd
   split at hd
   · rename_i A r
     split at hd
     · rename_i x1 hx
       split at hd
       · rename_i y hy
         cases hd
         cases j with
         | zero => simpa [ShL.enc] using Sh.dec_ok h s A x1 hx v (by simpa using hv)
         | succ j => simpa [ShL.enc] using ShL.dec_at h l r y hy j v (by simpa using hv)
       · cases hd
     · cases hd
   · cases hd
end
section
variable {bo:Bool} {ρ:Rho} {H:List TOb}
theorem qz9:∀ (os:Rho) (l:List Hs) (y:hpDen l),hpDec bo ρ H os l=some y→os.length=l.length∧(hpEnc l y).length=l.length∧∀ (i:Nat) o,os[i]? = some o→∃ (hs:Hs) (xi:hs.den),hs.dec bo ρ H o=some xi∧(hpEnc l y)[i]? = some (hs.enc xi)
 | [], [], y, h => ⟨rfl,rfl,fun i o ho=>by simp at ho⟩
 | [], p :: l, y, h => by simp [hpDec] at h
 | o :: os, [], y, h => by simp [hpDec] at h
 | o :: os, p :: l, y, h => by
   unfold hpDec at h
   split at h
   · rename_i x hx
     split at h
     · rename_i y' hy
       cases h
       obtain ⟨h1,h2,h3⟩:=qz9 os l y' hy
       refine ⟨by simp [h1],by simp [hpEnc,h2],fun i o' ho=>?_⟩
       cases i with
       | zero =>
         simp at ho
         subst ho
         exact ⟨p,x,hx,by simp [hpEnc]⟩
       | succ i =>
         obtain ⟨hs,xi,e1,e2⟩:=h3 i o' (by simpa using ho)
         exact ⟨hs,xi,e1,by simpa [hpEnc] using e2⟩
     · cases h
   · cases h
theorem q1ei:∀ {a b:List TypeId},itsB a b=true→a=b
 | [], [], _ => rfl
 | [], b :: m, h => by simp [itsB] at h
 | a :: l, [], h => by simp [itsB] at h
 | a :: l, b :: m, h => by
   simp only [itsB,Bool.and_eq_true] at h
   rw [beq_eq h.1,q1ei h.2]
theorem Hs.dec_cases {hs:Hs} {o:Option Nat} {xi:hs.den} (h:hs.dec bo ρ H o=some xi) :
   (o=none∧∃ ty md its t,mdArr md=true∧hs.enc xi=.arr ty md its t []) ∨
   (∃ tg ty md md' its t xs,o=some tg∧H[tg]? = some (.arr ty md' its t xs)∧mdOk md md'=true∧hs.enc xi=.arr ty md its t xs) ∨
   (∃ tg ty sz n l cs x,o=some tg∧H[tg]? = some (.cs ty sz n cs)∧ShL.dec bo ρ H l cs=some x∧0 < n∧hs.enc xi=.cs ty sz n (l.enc x)) ∨
   (∃ tg kt vt es,o=some tg∧H[tg]? = some (.mp kt vt es)∧hs.enc xi=.mp kt vt es):=by
 cases hs with
 | arr ty md its t =>
   unfold Hs.dec at h
   simp only [] at h
   split at h
   · obtain ⟨hb,h⟩:=q4 h
     cases h
     exact .inl ⟨rfl,ty,md,its,t,hb,rfl⟩
   · rename_i tg
     split at h
     · rename_i ty' md' its' t' xs hov
       split at h
       · rename_i he _
         obtain ⟨hb,h⟩:=q4 h
         subst he
         cases h
         simp only [Bool.and_eq_true] at hb
         have e1:=beq_eq hb.1.1
         have e2:=q1ei hb.2
         subst e1
         subst e2
         exact .inr (.inl ⟨tg,_,md,md',_,_,xs,rfl,hov,hb.1.2,rfl⟩)
       · cases h
     · cases h
 | cs ty sz n l =>
   unfold Hs.dec at h
   simp only [] at h
   split at h
   · cases h
   · rename_i tg
     split at h
     · rename_i ty' sz' n' ws hov
       obtain ⟨hb,h⟩:=q4 h
       simp only [Bool.and_eq_true] at hb
       have e1:=beq_eq hb.1.1.1
       have e2:=beq_eq hb.1.1.2
       have e3:=beq_eq hb.1.2
       subst e1
       subst e2
       subst e3
       exact .inr (.inr (.inl ⟨tg,_,_,_,l,ws,xi,rfl,hov,h,blt_lt hb.2,rfl⟩))
     · cases h
 | mp kt vt =>
   unfold Hs.dec at h
   simp only [] at h
   split at h
   · cases h
   · rename_i tg
     split at h
     · rename_i kt' vt' es hov
       split at h
       · rename_i h1 h2 _ _
         subst h1
         subst h2
         cases h
         exact .inr (.inr (.inr ⟨tg,_,_,es,rfl,hov,rfl⟩))
       · cases h
     · cases h
end
end Go.K
