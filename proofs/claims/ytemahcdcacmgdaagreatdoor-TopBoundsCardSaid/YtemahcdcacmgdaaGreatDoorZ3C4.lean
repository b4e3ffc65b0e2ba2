/-
  Coverability: ways in a closed set of markings cannot pump; a node is added; the tree is made.
-/
import Derived.Test.YtemahcdcacmgdaaGreatDoorZ3C3
set_option linter.all false
namespace Go.Proofs.YtemahcdcacmgdaaGreatDoor
open Go.K Go.M
inductive Way (n : b8) (x : List Int) : List Nat → List Int → Prop
 | nil : Way n x [] x
 | snoc {w : List Nat} {y : List Int} {t : Nat} : Way n x w y → t < n.2.1.length → ge (li n t) y = true → ch n.1 (cj (li n t) y) = true → Way n x (w ++ [t]) (cj (li n t) y)
theorem qw6{T:ah}{m:List Int}:ge T m=true↔∀p∈T.2.1,m.getD p.toNat 0≠0:=by
 unfold ge;rw[Bool.not_eq_true',List.any_eq_false];simp
section
variable {n : b8} (h : Small n) (hv : dp n = true) {m : List Int} {S : List (List Int)} (hS : FullS n m S)
include h hv hS
theorem ju6{x y:List Int}{w:List Nat}(hw:Way n x w y)(hx:x∈S):y∈S:=by
 induction hw with
 |nil=>exact hx
 |snoc _ ht hc _ ih=>exact hS.cl _ ih _ ht hc
theorem ju7{x y x' :List Int}{w:List Nat}(hw:Way n x w y)(hx:x∈S)(hx' :x' ∈S)(hle:∀q,q<n.1.toNat→x.getD q 0≤x'.getD q 0):∃y' ∈S,∀q,q<n.1.toNat→y'.getD q 0=x'.getD q 0+(y.getD q 0-x.getD q 0):=by
 induction hw with
 |nil=>exact⟨x',hx',fun q _=>by omega⟩
 | @snoc w y t hw ht hc _ ih=>
  obtain⟨y',hy',he⟩:=ih;have hy:=ju6 h hv hS hw hx;have F:=qrd h hv (hS.ok _ hy) ht;have F' :=qrd h hv (hS.ok _ hy') ht;have hc' :ge (li n t) y' =true:=qw6.2 fun p hp=>by
   have h1:=qw6.1 hc p hp;have h2:=F.i1 p hp;have h3:=F.mb p.toNat (by omega);have h4:=he p.toNat (by have:=F.ml;omega);have h5:=hle p.toNat (by have:=F.ml;omega);omega
  exact⟨_,hS.cl _ hy' t ht hc',fun q hq=>by rw[F.at_,F'.at_,he q hq];omega⟩
theorem jwv{z p:List Int}{w:List Nat}(hw:Way n z w p)(hz:z∈S)(hb:qtv z p=true)(hne:z≠p):False:=by
 have hp:=ju6 h hv hS hw hz;obtain⟨z1,z2⟩:=d7.1 (hS.ok _ hz);obtain⟨p1,p2⟩:=d7.1 (hS.ok _ hp);have hb:=q69.1 hb;have hle:∀q,q<n.1.toNat→z.getD q 0≤p.getD q 0:=fun q hq=>by
  have:=hb q (by omega);have:=p2 q (by omega);omega
 have hk:∀k:Nat,∃u∈S,∀q,q<n.1.toNat→u.getD q 0=z.getD q 0+k*(p.getD q 0-z.getD q 0):=fun k=>by
  induction k with
  |zero=>exact⟨z,hz,fun q _=>by simp⟩
  |succ k ih=>
   obtain⟨u,hu,he⟩:=ih;obtain⟨u',hu',he'⟩:=ju7 h hv hS hw hz hu fun q hq=>by
    rw[he q hq];have:=Int.mul_nonneg (show(0:Int)≤(k:Int) by omega) (show 0≤p.getD q 0-z.getD q 0 by have:=hle q hq;omega);omega
   refine⟨u',hu',fun q hq=> ?_⟩;rw[he' q hq,he q hq,show((k+1:Nat):Int)=(k:Int)+1 from by omega,Int.add_mul];omega
 obtain⟨u,hu,he⟩:=hk 101;refine hne (j0r (by omega) fun q hq=> ?_);have h1:=he q (by omega);have h2:=(d7.1 (hS.ok _ hu)).2 q (by have:=(d7.1 (hS.ok _ hu)).1;omega);have h3:=hle q (by omega);have h4:=z2 q hq;omega
end
theorem qiq(ns:List ae)(i:Nat):cN ns (i+1)=cN ns i+if nwN ns i then 1 else 0:=by
 unfold cN;rw[List.range_succ,List.filter_append,List.length_append];cases h:nwN ns i<;>simp[h]
theorem jkt(ns:List ae)(x:ae):∀i,i≤ns.length→cN (ns++[x]) i=cN ns i
 |0,_=>rfl
 |i+1,h=>by
  rw[qiq,qiq,jkt ns x i (by omega)];have:nwN (ns++[x]) i=nwN ns i:=by unfold nwN;rw[zg _ _ _ _ (by omega)]
  rw[this]
theorem jhp(ns:List ae):∀i j,i≤j→cN ns i≤cN ns j
 |i,0,h=>by rw[Nat.le_zero.1 h];exact Nat.le_refl _
 |i,j+1,h=>by
  rw[qiq];by_cases e:i=j+1
  ·subst e;rw[qiq];exact Nat.le_refl _
  ·have:=jhp ns i j (by omega);omega
inductive AncW (ns : List ae) (b : Nat) : Nat → List Nat → Prop
 | refl : AncW ns b b []
 | up {a c t : Nat} {w : List Nat} : c < a → a < ns.length → nwN ns c = true → abN ns a = (c : Int) → trN ns a = (t : Int) → AncW ns b c w → AncW ns b a (w ++ [t])
section
variable {n : b8} {m : List Int} {i d : Nat} {ns : List ae} {st : List (List Int)} (C : CI n m i d ns st)
include C
theorem j32{b a:Nat}(ha:Anc ns b a)(hl:a<ns.length):∃w,AncW ns b a w:=by
 induction ha with
 |refl=>exact⟨[], .refl⟩
 | @up a c h1 _ ih=>
  have:=C.ab a hl;obtain⟨w,hw⟩:=ih (by omega);obtain⟨a',t,g1,gt,g2,g3,_⟩:=C.node a (by omega) hl;obtain rfl:a' =c:=by omega
  exact⟨w++[t], .up g1 hl gt.2 h1 g3 hw⟩
theorem j62{a:Nat}(hl:a<ns.length):∃w,AncW ns 0 a w:=by
 induction a using Nat.strongRecOn with
 |_ a ih=>
  by_cases h0:a=0
  ·subst h0;exact⟨[], .refl⟩
  ·obtain⟨c,t,g1,gt,g2,g3,_⟩:=C.node a (by omega) hl;obtain⟨w,hw⟩:=ih c g1 (by omega);exact⟨w++[t], .up g1 hl gt.2 g2 g3 hw⟩
omit C in
theorem AncW.len{b a:Nat}{w:List Nat}(h:AncW ns b a w):w.length≤cN ns a:=by
 induction h with
 |refl=>exact Nat.zero_le _
 | @up a c t w h1 _ h3 _ _ _ ih=>
  have h4:=jhp ns (c+1) a h1;rw[qiq,h3,if_pos rfl]at h4;simp only[List.length_append,List.length_singleton];omega
theorem q83(h:Small n)(hv:dp n=true)(hm:ch n.1 m=true){a:Nat}(hl:a<ns.length)(ho:∀j,j≤a→omN ns j=false):ch n.1 (ng ns a)=true:=by
 induction a using Nat.strongRecOn with
 |_ a ih=>
  by_cases h0:a=0
  ·subst h0;rw[C.root.1];exact hm
  ·obtain⟨c,t,g1,gt,g2,g3,g4,g5,g6,g7,g8,_⟩:=C.node a (by omega) hl;have hc:=ih c g1 (by omega) fun j hj=>ho j (by omega)
   rw[g8 (ho a (Nat.le_refl _)),g5,qcj h hv hc gt.1 g4,q1t (qrd h hv hc gt.1) g4,←qcj h hv hc gt.1 g4,←g5];show(!jer (plN ns a))=true;rw[g6];rfl
theorem jmi(h:Small n)(hv:dp n=true)(hm:ch n.1 m=true){b a:Nat}{w:List Nat}(hw:AncW ns b a w)(ho:∀j,j≤a→omN ns j=false):Way n (ng ns b) w (ng ns a):=by
 induction hw with
 |refl=>exact .nil
 | @up a c t w h1 hl _ h2 h3 _ ih=>
  obtain⟨c',t',g1,gt,g2,g3,g4,g5,g6,g7,g8,_⟩:=C.node a (by omega) hl;have e1:c' =c:=by omega
  have e2:t' =t:=by omega
  subst e1 e2;have hc:=q83 C h hv hm (a:=c') (by omega) fun j hj=>ho j (by omega)
  have ha:=q83 C h hv hm hl ho;rw[g8 (ho a (Nat.le_refl _)),g5,qcj h hv hc gt.1 g4]at ha;rw[g8 (ho a (Nat.le_refl _)),g5,qcj h hv hc gt.1 g4];exact .snoc (ih fun j hj=>ho j (by omega)) gt.1 g4 ha
end
end Go.Proofs.YtemahcdcacmgdaaGreatDoor
