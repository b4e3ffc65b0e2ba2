/-
  Siphon: the greatest siphon, or trap, in a set; the law SiphonForms.
-/
import Derived.Test.YtjhojmninmipcaaZ4U1
set_option linter.all false
namespace Go.Proofs.Ytjhojmninmipcaa
open Go.K Go.M
def endA (t:Trans) (trap:Bool):List Int:=bif trap then t.2.1 else t.2.2.1
def endB (t:Trans) (trap:Bool):List Int:=bif trap then t.2.2.1 else t.2.1
def openT (trap:Bool) (l:List Int) (t:Trans):Bool:=meetB (endA t trap) l&&!meetB (endB t trap) l
def q11k (ts:List Trans) (trap:Bool) (l:List Int):Bool:=!ts.any (openT trap l)
structure SmallT (ts:List Trans):Prop where
 trans:ts.length≤100
 ins:∀ t∈ts,t.2.1.length≤50
 outs:∀ t∈ts,t.2.2.1.length≤50
theorem Small.T {n:Net} (h:Small n):SmallT n.2.1:=⟨h.trans,h.ins,h.outs⟩
theorem SmallT.a {ts:List Trans} (h:SmallT ts) {t:Trans} (ht:t∈ts) (trap:Bool):(endA t trap).length≤50:=by
 cases trap
 · exact h.outs t ht
 · exact h.ins t ht
theorem SmallT.b {ts:List Trans} (h:SmallT ts) {t:Trans} (ht:t∈ts) (trap:Bool):(endB t trap).length≤50:=by
 cases trap
 · exact h.ins t ht
 · exact h.outs t ht
def Closed (ts:List Trans) (trap:Bool) (W:List Int):Prop:=q11k ts trap W=true
theorem filt_f {α:Type} {p:α→Bool} {x:α} (h:p x=false):[x].filter p=[]:=by rw [List.filter_cons,h]; rfl
theorem filt_t {α:Type} {p:α→Bool} {x:α} (h:p x=true):[x].filter p=[x]:=by rw [List.filter_cons,h]; rfl
theorem qzj (l:List Int) (hl:l.length≤1000000):q2e l l=some true:=by
 have hL:qcp l l (l.length:Int) 0=some (.inl ()):=by
   refine qg5 (fun i:Nat=>(i:Int)) l.length (q5u (by omega)) _ (fun i hi=>?_) ?_ _ rfl
   · simp only [q4l,Int.toNat_natCast]
     simp (disch:=omega) only [ckB_ix,qa,q6,qb,ckB_mk,ckB_ne,bif_lt,qf,bif_le,qc,bif_eq,qe,bif_ne,q9,qd,q4,q0,bnd_ok,lk_inl,lk_inr,Int.toNat_natCast,decide_true]
     simp
   · simp (disch:=omega) only [q4l,ckB_ix,qa,q6,qb,ckB_mk,ckB_ne,bif_lt,qf,bif_le,qc,bif_eq,qe,bif_ne,q9,qd,q4,q0,bnd_ok,lk_inl,lk_inr,Int.toNat_natCast,decide_true]
 unfold q2e
 rw [hL]
 simp
end Go.Proofs.Ytjhojmninmipcaa
