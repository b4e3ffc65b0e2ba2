/-
  Siphon: Minimal as the reference gives it; the law SiphonMinimal.
-/
import Derived.Test.YtclbndfjhjladaaGreatZ7W3
set_option linter.all false
namespace Go.Proofs.YtclbndfjhjladaaGreat
open Go.K Go.M
theorem jrg{ts:List ab}{trap:Bool}{a b:List Int}(h:∀x,x∈a↔x∈b)(ha:q9 ts trap a):q9 ts trap b:=by
 rw[qd2]at ha⊢;rintro t ht ⟨p,h1,h2⟩;obtain⟨q,h3,h4⟩:=ha t ht ⟨p,h1,(h p).2 h2⟩;exact⟨q,h3,(h q).1 h4⟩
theorem zat{n:dj}{N:Nat}{W:List Int}(hb:∀x∈W,(0:Int)≤x∧x<(N:Int))(hc:q9 n.2.1 false W):clo n N (qt W)=true:=by
 refine jrg (fun x=> ?_) hc;constructor
 ·intro hx;have:=hb x hx;refine qko.2 ⟨x.toNat,by omega,?_,by omega⟩;rw[qu7 fun x hx=>(hb x hx).1,t3,Int.toNat_of_nonneg this.1];exact hx
 ·intro hx;obtain⟨p,_,h2,rfl⟩:=qko.1 hx;rw[qu7 fun x hx=>(hb x hx).1,t3]at h2;exact h2
theorem j3m{W:List Int}(hb:∀x∈W,(0:Int)≤x)(hne:W≠[]):1≤qt W:=by
 cases W with
 |nil=>exact(hne rfl).elim
 |cons x W=>
  refine Nat.pos_of_ne_zero fun hz=> ?_
  have h1:(qt (x::W)).testBit x.toNat=true:=by
   rw[qu7 hb,t3,Int.toNat_of_nonneg (hb x List.mem_cons_self)];exact List.mem_cons_self
  rw[hz,Nat.zero_testBit]at h1;cases h1
theorem jyh{N k:Nat}(h1:1≤k)(hk:k<2 ^ N):jz N k≠[]:=by
 intro he;have:k=0:=by
  refine Nat.eq_of_testBit_eq fun p=> ?_
  rw[Nat.zero_testBit];cases h:k.testBit p with
  |false=>rfl
  |true=>
   by_cases hp:p<N
   ·have:(p:Int)∈jz N k:=qko.2 ⟨p,hp,h,rfl⟩;rw[he]at this;cases this
   ·rw[Nat.testBit_lt_two_pow (Nat.lt_of_lt_of_le hk (Nat.pow_le_pow_right (by omega) (by omega)))]at h;cases h
 omega
end Go.Proofs.YtclbndfjhjladaaGreat
