/-
  Sorting rows of numbers: broken patterns, the rounds, the whole.
-/
import Derived.Test.YtclbndfjhjladaaGreatZ6V4
import Derived.KernelRfl
set_option linter.all false
namespace Go.Proofs.YtclbndfjhjladaaGreat
open Go.K Go.M
def j23(x:Nat):Bool:=match qup (x:Int)with|some y=>decide (0≤y)&&(decide (y≤16)&&(decide (x=0)||decide (2 ^ y.toNat≤2*x)))|none=>false
def j04(f:Nat→Bool):Nat→Bool
 |0=>true
 |n+1=>f n&&j04 f n
theorem jvg{f:Nat→Bool}:∀{n:Nat},j04 f n=true→∀x,x<n→f x=true
 |n+1,h,x,hx=>by
  simp only[j04,Bool.and_eq_true]at h;rcases Nat.lt_or_ge x n with h' |h'
  ·exact jvg h.2 x h'
  ·obtain rfl:x=n:=by omega
   exact h.1
theorem jxv:j04 j23 4096=true:=by kernel_rfl
theorem jwr(n:Nat)(h:n<2 ^ 64):IntKind.wrap .u64 (n:Int)=(n:Int):=by
 simp[IntKind.wrap,IntKind.bits,IntKind.signed];omega
theorem jzs(n:Nat)(h:n<4096):∃L:Nat,qup (IntKind.wrap .u64 (n:Int))=some (L:Int)∧L≤16∧(1≤n→2 ^ L≤2*n):=by
 rw[jwr n (by omega)];have:=jvg jxv n h;unfold j23 at this;split at this
 ·rename_i y e;simp only[Bool.and_eq_true,Bool.or_eq_true,decide_eq_true_eq]at this;obtain⟨h1,h2,h3⟩:=this;refine⟨y.toNat,?_,by omega,fun hn=> ?_⟩
  ·rw[e,Int.toNat_of_nonneg h1]
  ·rcases h3 with h3|h3
   ·omega
   ·exact h3
 ·cases this
theorem j2h{n:Nat}(h:n<64):qja .u64 1 (n:Int)=((2 ^ n:Nat):Int):=by
 have hp:2 ^ n<2 ^ 64:=Nat.pow_lt_pow_right (by omega) h;unfold qja;rw[show min (Int.toNat (n:Int)) IntKind.u64.bits=n by simp[IntKind.bits];omega,show((1:Int)*2 ^ n)=((2 ^ n:Nat):Int) by simp];exact jwr _ hp
theorem j83(n:Nat)(h1:1≤n)(h:n<4096):∃L:Nat,mq (n:Int)=some ((2 ^ L:Nat):Int)∧L≤16∧2 ^ L≤2*n:=by
 obtain⟨L,e,hL,h2⟩:=jzs n h;refine⟨L,?_,hL,h2 h1⟩;unfold mq;rw[e,ag,m4 (decide_eq_true (Int.natCast_nonneg L)),j2h (by omega)]
theorem j05(x:Int)(L:Nat)(hL:L≤16):∃v:Nat,fg .and .u64 x (IntKind.wrap .u64 (((2 ^ L:Nat):Int)-1))=(v:Int)∧v<2 ^ L:=by
 have hp:2 ^ L≤2 ^ 16:=Nat.pow_le_pow_right (by omega) hL;have h0:1≤2 ^ L:=Nat.one_le_two_pow;generalize 2 ^ L=q at hp h0;rw[show((q:Int)-1)=((q-1:Nat):Int) by omega,jwr _ (by omega)];unfold fg;simp only[];rw[show IntKind.u64.bits=64 from rfl,BitVec.toNat_and];have hb:(BitVec.ofInt 64 ((q-1:Nat):Int)).toNat=q-1:=by
  rw[BitVec.toNat_ofInt];omega
 rw[hb];have hle:=Nat.and_le_right (n:=(BitVec.ofInt 64 x).toNat) (m:=q-1);generalize(BitVec.ofInt 64 x).toNat&&&(q-1)=v at hle;exact⟨v,jwr v (by omega),by omega⟩
theorem j1e(a b L:Nat)(d:Rw)(hd:Sh d)(hab:a+8≤b)(hb:b≤d.length)(hl:d.length≤1000000)(hL:2 ^ L≤2*(b-a))(hL2:L≤16)(rnd:Int):
  ∃o,n6 (a:Int) ((b:Int)-(a:Int)) ((2 ^ L:Nat):Int) (((a+(b-a)/4*2-1:Nat):Int),d,rnd)=some o∧(match o with| .inl d' =>Sort.PermIn a b d.toArray d'.toArray| .inr _=>False):=by
 have hq:Int.tdiv ((b:Int)-(a:Int)) 4=(((b-a)/4:Nat):Int):=by
  rw[show(b:Int)-(a:Int)=((b-a:Nat):Int) by omega,Int.tdiv_eq_ediv_of_nonneg (by omega)];rfl
 have k2:(a:Int)+(((b-a)/4:Nat):Int)*2=((a+(b-a)/4*2:Nat):Int):=by omega
 refine ju (fun(st:Int×Rw×Int)=>∃k:Nat,st.1=(k:Int)∧a+(b-a)/4*2-1≤k∧Sort.PermIn a b d.toArray st.2.1.toArray) (fun st=>(((a+(b-a)/4*2+2:Nat):Int)-st.1).toNat) (fun(o:Rw⊕Rw)=>match o with| .inl d' =>Sort.PermIn a b d.toArray d'.toArray| .inr _=>False) _ ⟨_,rfl,Nat.le_refl _,Sort.permIn_refl _ _ _⟩ (by show(((a+(b-a)/4*2+2:Nat):Int)-((a+(b-a)/4*2-1:Nat):Int)).toNat<many;unfold many;omega) ?_;rintro⟨_,c,r⟩ ⟨k,rfl,hk,hp⟩;have hp:Sort.PermIn a b d.toArray c.toArray:=hp;have hc:Sh c:=qtc hd hb hp;have hcl:c.length=d.length:=qb4 hp;by_cases hin:k≤a+(b-a)/4*2+1
 ·obtain⟨v,hr⟩:∃v,ta r=some v:=⟨_,rfl⟩;obtain⟨u,hu,hu2⟩:=j05 v.1 L hL2;have hkb:k<b:=by omega
  have hin' :(k:Int)≤((a+(b-a)/4*2:Nat):Int)+1:=by omega
  by_cases hv:b-a≤u
  ·have k5:(a:Int)+((u:Int)-((b:Int)-(a:Int)))=((a+(u-(b-a)):Nat):Int):=by omega
   have hvi:(b:Int)-(a:Int)≤(u:Int):=by omega
   have ho:a+(u-(b-a))<b:=by omega
   have hpp:=Sort.permIn_trans _ _ _ a b hp (Sort.swp_permIn c.toArray a b k (a+(u-(b-a))) (by omega) hkb (by omega) ho (by simpa using (by omega)));rw[m6]at hpp;refine⟨.next (((k+1:Nat):Int),swL c k (a+(u-(b-a))),v.2),?_,⟨k+1,rfl,by omega,hpp⟩,by show(((a+(b-a)/4*2+2:Nat):Int)-((k+1:Nat):Int)).toNat<(((a+(b-a)/4*2+2:Nat):Int)-(k:Int)).toNat;omega⟩;simp only[dj,hr,ag,hu,hq,k2,k5,Int.toNat_natCast,qkx,List.length_set];simp(disch:=omega)only[b7,ba,aj,ai,ar,ax,bc,a8,am,a7,al,az,ak,a9,ao,aq,af,ae,ag,au,ay,Int.toNat_natCast,decide_true];rw[bq]
  ·have k5:(a:Int)+(u:Int)=((a+u:Nat):Int):=by omega
   have hvi:¬(b:Int)-(a:Int)≤(u:Int):=by omega
   have ho:a+u<b:=by omega
   have hpp:=Sort.permIn_trans _ _ _ a b hp (Sort.swp_permIn c.toArray a b k (a+u) (by omega) hkb (by omega) ho (by simpa using (by omega)));rw[m6]at hpp;refine⟨.next (((k+1:Nat):Int),swL c k (a+u),v.2),?_,⟨k+1,rfl,by omega,hpp⟩,by show(((a+(b-a)/4*2+2:Nat):Int)-((k+1:Nat):Int)).toNat<(((a+(b-a)/4*2+2:Nat):Int)-(k:Int)).toNat;omega⟩;simp only[dj,hr,ag,hu,hq,k2,k5,Int.toNat_natCast,qkx,List.length_set];simp(disch:=omega)only[b7,ba,aj,ai,ar,ax,bc,a8,am,a7,al,az,ak,a9,ao,aq,af,ae,ag,au,ay,Int.toNat_natCast,decide_true];rw[bq]
 ·refine⟨.done c,?_,hp⟩;have hin' :¬(k:Int)≤((a+(b-a)/4*2:Nat):Int)+1:=by omega
  simp only[dj,hq,k2];simp(disch:=omega)only[b7,ba,aj,ai,ar,ax,bc,a8,am,a7,al,az,ak,a9,ao,aq,af,ae,ag,au,ay,Int.toNat_natCast,decide_true]
theorem j9v(a b:Nat)(d:Rw)(hd:Sh d)(hab:a≤b)(hb:b≤d.length)(hl:d.length<4096):
  ∃d',ec (a:Int) (b:Int) d=some d' ∧Sort.PermIn a b d.toArray d'.toArray:=by
 unfold ec;rw[aj (by omega) (by omega)];by_cases h:a+8≤b
 ·have hq:Int.tdiv ((b:Int)-(a:Int)) 4=(((b-a)/4:Nat):Int):=by
   rw[show(b:Int)-(a:Int)=((b-a:Nat):Int) by omega,Int.tdiv_eq_ediv_of_nonneg (by omega)];rfl
  have k2:(a:Int)+(((b-a)/4:Nat):Int)*2=((a+(b-a)/4*2:Nat):Int):=by omega
  have k3:((a+(b-a)/4*2:Nat):Int)-1=((a+(b-a)/4*2-1:Nat):Int):=by omega
  obtain⟨L,e,hL,h2⟩:=j83 (b-a) (by omega) (by omega);rw[show((b-a:Nat):Int)=(b:Int)-(a:Int) by omega]at e;obtain⟨o,ho,hp⟩:=j1e a b L d hd h hb (by omega) h2 hL (IntKind.wrap .u64 ((b:Int)-(a:Int)));have h8:(8:Int)≤(b:Int)-(a:Int):=by omega
  cases o with
  |inr _=>cases hp
  |inl d' =>
   refine⟨d',?_,hp⟩;simp only[e,ag,hq,k2,k3,ho,au];simp(disch:=omega)only[b7,ba,aj,ai,ar,ax,bc,a8,am,a7,al,az,ak,a9,ao,aq,af,ae,ag,au,ay,Int.toNat_natCast,decide_true]
 ·have h8:¬(8:Int)≤(b:Int)-(a:Int):=by omega
  refine⟨d,?_,Sort.permIn_refl _ _ _⟩;simp(disch:=omega)only[b7,ba,aj,ai,ar,ax,bc,a8,am,a7,al,az,ak,a9,ao,aq,af,ae,ag,au,ay,Int.toNat_natCast,decide_true]
end Go.Proofs.YtclbndfjhjladaaGreat
