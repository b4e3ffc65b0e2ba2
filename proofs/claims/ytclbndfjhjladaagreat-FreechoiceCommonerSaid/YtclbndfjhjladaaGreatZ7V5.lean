/-
  Sorting rows of numbers: broken patterns, the rounds, the whole.
-/
import Derived.Test.YtclbndfjhjladaaGreatZ7V4
import Derived.KernelRfl
set_option linter.all false
namespace Go.Proofs.YtclbndfjhjladaaGreat
open Go.K Go.M
def j7l(x:Nat):Bool:=match qyk (x:Int)with|some y=>decide (0≤y)&&(decide (y≤16)&&(decide (x=0)||decide (2 ^ y.toNat≤2*x)))|none=>false
def j45(f:Nat→Bool):Nat→Bool
 |0=>true
 |n+1=>f n&&j45 f n
theorem jyb{f:Nat→Bool}:∀{n:Nat},j45 f n=true→∀x,x<n→f x=true
 |n+1,h,x,hx=>by
  simp only[j45,Bool.and_eq_true]at h;rcases Nat.lt_or_ge x n with h' |h'
  ·exact jyb h.2 x h'
  ·obtain rfl:x=n:=by omega
   exact h.1
theorem j02:j45 j7l 4096=true:=by kernel_rfl
theorem jz1(n:Nat)(h:n<2 ^ 64):IntKind.wrap .u64 (n:Int)=(n:Int):=by
 simp[IntKind.wrap,IntKind.bits,IntKind.signed];omega
theorem j3h(n:Nat)(h:n<4096):∃L:Nat,qyk (IntKind.wrap .u64 (n:Int))=some (L:Int)∧L≤16∧(1≤n→2 ^ L≤2*n):=by
 rw[jz1 n (by omega)];have:=jyb j02 n h;unfold j7l at this;split at this
 ·rename_i y e;simp only[Bool.and_eq_true,Bool.or_eq_true,decide_eq_true_eq]at this;obtain⟨h1,h2,h3⟩:=this;refine⟨y.toNat,?_,by omega,fun hn=> ?_⟩
  ·rw[e,Int.toNat_of_nonneg h1]
  ·rcases h3 with h3|h3
   ·omega
   ·exact h3
 ·cases this
theorem j6v{n:Nat}(h:n<64):qls .u64 1 (n:Int)=((2 ^ n:Nat):Int):=by
 have hp:2 ^ n<2 ^ 64:=Nat.pow_lt_pow_right (by omega) h;unfold qls;rw[show min (Int.toNat (n:Int)) IntKind.u64.bits=n by simp[IntKind.bits];omega,show((1:Int)*2 ^ n)=((2 ^ n:Nat):Int) by simp];exact jz1 _ hp
theorem zd0(n:Nat)(h1:1≤n)(h:n<4096):∃L:Nat,ns (n:Int)=some ((2 ^ L:Nat):Int)∧L≤16∧2 ^ L≤2*n:=by
 obtain⟨L,e,hL,h2⟩:=j3h n h;refine⟨L,?_,hL,h2 h1⟩;unfold ns;rw[e,ao,n9 (decide_eq_true (Int.natCast_nonneg L)),j6v (by omega)]
theorem j46(x:Int)(L:Nat)(hL:L≤16):∃v:Nat,ey .and .u64 x (IntKind.wrap .u64 (((2 ^ L:Nat):Int)-1))=(v:Int)∧v<2 ^ L:=by
 have hp:2 ^ L≤2 ^ 16:=Nat.pow_le_pow_right (by omega) hL;have h0:1≤2 ^ L:=Nat.one_le_two_pow;generalize 2 ^ L=q at hp h0;rw[show((q:Int)-1)=((q-1:Nat):Int) by omega,jz1 _ (by omega)];unfold ey;simp only[];rw[show IntKind.u64.bits=64 from rfl,BitVec.toNat_and];have hb:(BitVec.ofInt 64 ((q-1:Nat):Int)).toNat=q-1:=by
  rw[BitVec.toNat_ofInt];omega
 rw[hb];have hle:=Nat.and_le_right (n:=(BitVec.ofInt 64 x).toNat) (m:=q-1);generalize(BitVec.ofInt 64 x).toNat&&&(q-1)=v at hle;exact⟨v,jz1 v (by omega),by omega⟩
theorem j5h(a b L:Nat)(d:Rw)(hd:Sh d)(hab:a+8≤b)(hb:b≤d.length)(hl:d.length≤1000000)(hL:2 ^ L≤2*(b-a))(hL2:L≤16)(rnd:Int):
  ∃o,pe (a:Int) ((b:Int)-(a:Int)) ((2 ^ L:Nat):Int) (((a+(b-a)/4*2-1:Nat):Int),d,rnd)=some o∧(match o with| .inl d' =>Sort.PermIn a b d.toArray d'.toArray| .inr _=>False):=by
 have hq:Int.tdiv ((b:Int)-(a:Int)) 4=(((b-a)/4:Nat):Int):=by
  rw[show(b:Int)-(a:Int)=((b-a:Nat):Int) by omega,Int.tdiv_eq_ediv_of_nonneg (by omega)];rfl
 have k2:(a:Int)+(((b-a)/4:Nat):Int)*2=((a+(b-a)/4*2:Nat):Int):=by omega
 refine p6 (fun(st:Int×Rw×Int)=>∃k:Nat,st.1=(k:Int)∧a+(b-a)/4*2-1≤k∧Sort.PermIn a b d.toArray st.2.1.toArray) (fun st=>(((a+(b-a)/4*2+2:Nat):Int)-st.1).toNat) (fun(o:Rw⊕Rw)=>match o with| .inl d' =>Sort.PermIn a b d.toArray d'.toArray| .inr _=>False) _ ⟨_,rfl,Nat.le_refl _,Sort.permIn_refl _ _ _⟩ (by show(((a+(b-a)/4*2+2:Nat):Int)-((a+(b-a)/4*2-1:Nat):Int)).toNat<many;unfold many;omega) ?_;rintro⟨_,c,r⟩ ⟨k,rfl,hk,hp⟩;have hp:Sort.PermIn a b d.toArray c.toArray:=hp;have hc:Sh c:=qw7 hd hb hp;have hcl:c.length=d.length:=qef hp;by_cases hin:k≤a+(b-a)/4*2+1
 ·obtain⟨v,hr⟩:∃v,uz r=some v:=⟨_,rfl⟩;obtain⟨u,hu,hu2⟩:=j46 v.1 L hL2;have hkb:k<b:=by omega
  have hin' :(k:Int)≤((a+(b-a)/4*2:Nat):Int)+1:=by omega
  by_cases hv:b-a≤u
  ·have k5:(a:Int)+((u:Int)-((b:Int)-(a:Int)))=((a+(u-(b-a)):Nat):Int):=by omega
   have hvi:(b:Int)-(a:Int)≤(u:Int):=by omega
   have ho:a+(u-(b-a))<b:=by omega
   have hpp:=Sort.permIn_trans _ _ _ a b hp (Sort.swp_permIn c.toArray a b k (a+(u-(b-a))) (by omega) hkb (by omega) ho (by simpa using (by omega)));rw[og]at hpp;refine⟨.next (((k+1:Nat):Int),swL c k (a+(u-(b-a))),v.2),?_,⟨k+1,rfl,by omega,hpp⟩,by show(((a+(b-a)/4*2+2:Nat):Int)-((k+1:Nat):Int)).toNat<(((a+(b-a)/4*2+2:Nat):Int)-(k:Int)).toNat;omega⟩;simp only[cx,hr,ao,hu,hq,k2,k5,Int.toNat_natCast,qne,List.length_set];simp(disch:=omega)only[be,rs];rw[ar]
  ·have k5:(a:Int)+(u:Int)=((a+u:Nat):Int):=by omega
   have hvi:¬(b:Int)-(a:Int)≤(u:Int):=by omega
   have ho:a+u<b:=by omega
   have hpp:=Sort.permIn_trans _ _ _ a b hp (Sort.swp_permIn c.toArray a b k (a+u) (by omega) hkb (by omega) ho (by simpa using (by omega)));rw[og]at hpp;refine⟨.next (((k+1:Nat):Int),swL c k (a+u),v.2),?_,⟨k+1,rfl,by omega,hpp⟩,by show(((a+(b-a)/4*2+2:Nat):Int)-((k+1:Nat):Int)).toNat<(((a+(b-a)/4*2+2:Nat):Int)-(k:Int)).toNat;omega⟩;simp only[cx,hr,ao,hu,hq,k2,k5,Int.toNat_natCast,qne,List.length_set];simp(disch:=omega)only[be,rs];rw[ar]
 ·refine⟨.done c,?_,hp⟩;have hin' :¬(k:Int)≤((a+(b-a)/4*2:Nat):Int)+1:=by omega
  simp only[cx,hq,k2];simp(disch:=omega)only[be,rs]
theorem zeu(a b:Nat)(d:Rw)(hd:Sh d)(hab:a≤b)(hb:b≤d.length)(hl:d.length<4096):
  ∃d',dv (a:Int) (b:Int) d=some d' ∧Sort.PermIn a b d.toArray d'.toArray:=by
 unfold dv;rw[lz (by omega) (by omega)];by_cases h:a+8≤b
 ·have hq:Int.tdiv ((b:Int)-(a:Int)) 4=(((b-a)/4:Nat):Int):=by
   rw[show(b:Int)-(a:Int)=((b-a:Nat):Int) by omega,Int.tdiv_eq_ediv_of_nonneg (by omega)];rfl
  have k2:(a:Int)+(((b-a)/4:Nat):Int)*2=((a+(b-a)/4*2:Nat):Int):=by omega
  have k3:((a+(b-a)/4*2:Nat):Int)-1=((a+(b-a)/4*2-1:Nat):Int):=by omega
  obtain⟨L,e,hL,h2⟩:=zd0 (b-a) (by omega) (by omega);rw[show((b-a:Nat):Int)=(b:Int)-(a:Int) by omega]at e;obtain⟨o,ho,hp⟩:=j5h a b L d hd h hb (by omega) h2 hL (IntKind.wrap .u64 ((b:Int)-(a:Int)));have h8:(8:Int)≤(b:Int)-(a:Int):=by omega
  cases o with
  |inr _=>cases hp
  |inl d' =>
   refine⟨d',?_,hp⟩;simp only[e,ao,hq,k2,k3,ho,i6];simp(disch:=omega)only[be,rs]
 ·have h8:¬(8:Int)≤(b:Int)-(a:Int):=by omega
  refine⟨d,?_,Sort.permIn_refl _ _ _⟩;simp(disch:=omega)only[be,rs]
end Go.Proofs.YtclbndfjhjladaaGreat
