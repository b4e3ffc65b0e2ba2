/-
  Flow: the reference's invariants; FlowInvariants.
-/
import Derived.Test.YtclbndfjhjladaaGreatZ5PF6
set_option linter.all false
namespace Go.Proofs.YtclbndfjhjladaaGreat
open Go.K Go.M
def LeL(a b:List Int):Prop:=ltL b a=false
theorem jf0{n:bp}(h:1≤n.1):GoodE n.1.toNat n.2.1.length n.2.1.length (AP n) (plE n):=qfv (qmp _ _ _) _ (Nat.le_refl _)
theorem jge(n:bp):GoodE n.2.1.length n.1.toNat n.1.toNat (AT n) (trE n):=qfv (qmp _ _ _) _ (Nat.le_refl _)
structure OutOK (n : Nat) (r : Rw × Int) : Prop where
 len : r.1.length ≤ 1000
 row : ∀ x ∈ r.1, x.length = n ∧ ∀ i, 0 ≤ x.getD i 0 ∧ x.getD i 0 ≤ 1048576
 err : r.2 ≠ 0 → r.1 = []
theorem jkn{n m c:Nat}{A:Nat→Nat→Int}{L:List bz}(hG:GoodE n m c A L):OutOK n (q8z (td L)):=by
 unfold q8z;cases h1:decide (1000<(td L).length)with
 |true=>exact⟨Nat.zero_le _,fun x hx=>by simp at hx,fun _=>rfl⟩
 |false=>
  have hl:=of_decide_eq_false h1;have hp:=wo (td L);cases h2:(srt (td L)).any q76 with
  |true=>exact⟨Nat.zero_le _,fun x hx=>by simp at hx,fun _=>rfl⟩
  |false=>
   refine⟨by show(srt (td L)).length≤1000;rw[hp.length_eq];omega,fun x hx=> ?_,fun h=>absurd rfl h⟩;have hx:x∈srt (td L):=hx;obtain⟨r,hr,rfl⟩:=q35.1 (hp.mem_iff.1 hx);have ho:=hG.row r hr;refine⟨ho.len,fun i=> ?_⟩;by_cases hi:i<r.2.length
   ·refine⟨ho.sol.1 i (by rw[←ho.len];exact hi),?_⟩;have:=List.any_eq_false.1 h2 r.2 hx;unfold q76 at this;rw[Bool.not_eq_true,List.any_eq_false]at this;have:=this _ (au 0 hi);simpa using this
   ·rw[List.getD_eq_getElem?_getD,List.getElem?_eq_none (by omega)];exact⟨Int.le_refl _,by show(0:Int)≤1048576;omega⟩
theorem jtv{n:bp}:OutOK n.1.toNat (ql9 n):=by
 unfold ql9;cases hv:ck n with
 |false=>exact⟨Nat.zero_le _,fun x hx=>by simp at hx,fun _=>rfl⟩
 |true=>
  cases vm n with
  |true=>exact⟨Nat.zero_le _,fun x hx=>by simp at hx,fun _=>rfl⟩
  |false=>exact jkn (jf0 (u4 hv).1)
theorem jtw{n:bp}:OutOK n.2.1.length (qop n):=by
 unfold qop;cases hv:ck n with
 |false=>exact⟨Nat.zero_le _,fun x hx=>by simp at hx,fun _=>rfl⟩
 |true=>
  cases vm n with
  |true=>exact⟨Nat.zero_le _,fun x hx=>by simp at hx,fun _=>rfl⟩
  |false=>exact jkn (jge n)
end Go.Proofs.YtclbndfjhjladaaGreat
set_option linter.all false
namespace Go.Proofs.YtclbndfjhjladaaGreat
open Go.K Go.M
theorem jm1{n:bp}(hf:qt4 n)(h:(ql9 n).2=0):ck n=true∧vm n=false∧1≤n.1∧n.1≤12∧n.2.1.length≤14:=by
 unfold ql9 at h;cases hv:ck n with
 |false=>rw[hv]at h;exact absurd (show(1:Int)=0 from h) (by decide)
 |true=>
  cases hl:vm n with
  |true=>rw[hv,hl]at h;exact absurd (show(5:Int)=0 from h) (by decide)
  |false=>
   have:=qja hf hl;exact⟨rfl,rfl,(u4 hv).1,this.1,this.2⟩
theorem jm2{n:bp}(hf:qt4 n)(h:(qop n).2=0):ck n=true∧vm n=false∧1≤n.1∧n.1≤12∧n.2.1.length≤14:=by
 unfold qop at h;cases hv:ck n with
 |false=>rw[hv]at h;exact absurd (show(1:Int)=0 from h) (by decide)
 |true=>
  cases hl:vm n with
  |true=>rw[hv,hl]at h;exact absurd (show(5:Int)=0 from h) (by decide)
  |false=>
   have:=qja hf hl;exact⟨rfl,rfl,(u4 hv).1,this.1,this.2⟩
end Go.Proofs.YtclbndfjhjladaaGreat
set_option linter.all false
namespace Go.Proofs.YtclbndfjhjladaaGreat
open Go.K Go.M
structure Mins (n c : Nat) (A : Nat → Nat → Int) (d : Rw) : Prop where
 len : ∀ x ∈ d, x.length = n
 min : ∀ x ∈ d, qrd n c A (fn x)
 prim : ∀ x ∈ d, qre n (fn x)
 cov : ∀ y, qrd n c A y → qre n y → ∃ x ∈ d, EqN n (fn x) y
 pw : d.Pairwise fun x y => ¬ Sup n (fn x) (fn y) ∧ ¬ Sup n (fn y) (fn x)
 srt : d.Pairwise LeL
theorem jac{n m c:Nat}{A:Nat→Nat→Int}{L:List bz}(hG:GoodE n m c A L)(h:(q8z (td L)).2=0):Mins n c A (q8z (td L)).1:=by
 unfold q8z at h⊢;cases h1:decide (1000<(td L).length)with
 |true=>rw[h1]at h;exact absurd (show(5:Int)=0 from h) (by decide)
 |false=>
  rw[h1]at h;have hp:=wo (td L);cases h2:(srt (td L)).any q76 with
  |true=>rw[h2]at h;exact absurd (show(6:Int)=0 from h) (by decide)
  |false=>
   have hm:∀x,x∈srt (td L)→∃r∈L,r.2=x:=fun x hx=>by
    obtain⟨r,hr,e⟩:=q35.1 (hp.mem_iff.1 hx);exact⟨r,hr,e⟩
   refine⟨fun x hx=> ?_,fun x hx=> ?_,fun x hx=> ?_,fun y hy hP=> ?_,?_,qtx _⟩
   ·obtain⟨r,hr,rfl⟩:=hm x hx;exact(hG.row r hr).len
   ·obtain⟨r,hr,rfl⟩:=hm x hx;exact hG.min r hr
   ·obtain⟨r,hr,rfl⟩:=hm x hx;exact(hG.row r hr).prim
   ·obtain⟨r,hr,he⟩:=hG.cov y hy hP;exact⟨r.2,hp.mem_iff.2 (q35.2 ⟨r,hr,rfl⟩),he⟩
   ·refine(hp.symm.pairwise_iff (fun h=>⟨h.2,h.1⟩)).1 ?_;unfold td;rw[List.pairwise_map];exact hG.pw
theorem q94{n:bp}(hf:qt4 n)(h:(ql9 n).2=0):Mins n.1.toNat n.2.1.length (AP n) (ql9 n).1:=by
 obtain⟨hv,hl,h1,h2,h3⟩:=jm1 hf h;unfold ql9 at h⊢;rw[hv,hl]at h⊢;exact jac (jf0 h1) h
theorem q95{n:bp}(hf:qt4 n)(h:(qop n).2=0):Mins n.2.1.length n.1.toNat (AT n) (qop n).1:=by
 obtain⟨hv,hl,h1,h2,h3⟩:=jm2 hf h;unfold qop at h⊢;rw[hv,hl]at h⊢;exact jac (jge n) h
end Go.Proofs.YtclbndfjhjladaaGreat
