/-
  Flow: markings, firing, the reversed net.
-/
import Derived.Test.YtclbndfjhjladaaGreatZ4F1
set_option linter.all false
namespace Go.Proofs.YtclbndfjhjladaaGreat
open Go.K Go.M
theorem j6c{α:Type}{p:α→Bool}{x:α}(h:p x=false):[x].filter p=[]:=by rw[List.filter_cons,h];rfl
theorem j6d{α:Type}{p:α→Bool}{x:α}(h:p x=true):[x].filter p=[x]:=by rw[List.filter_cons,h];rfl
theorem jzg(n:Nat)(h:n<2 ^ 64):IntKind.wrap .u64 (n:Int)=(n:Int):=by
 simp[IntKind.wrap,IntKind.bits,IntKind.signed];omega
theorem j1u{n:Nat}(h:n<64):qqy .u64 1 (n:Int)=((2 ^ n:Nat):Int):=by
 have hp:2 ^ n<2 ^ 64:=Nat.pow_lt_pow_right (by omega) h;unfold qqy;rw[show min (Int.toNat (n:Int)) IntKind.u64.bits=n by simp[IntKind.bits];omega,show((1:Int)*2 ^ n)=((2 ^ n:Nat):Int) by simp];exact jzg _ hp
theorem jnp(a b:List Int)(i:Nat)(ha:i<a.length)(hb:i<b.length):vb (a.drop i) (b.drop i)=if a.getD i 0=b.getD i 0 then vb (a.drop (i+1)) (b.drop (i+1))else decide (a.getD i 0<b.getD i 0):=by
 rw[List.drop_eq_getElem_cons ha,List.drop_eq_getElem_cons hb];simp only[vb,List.getD_eq_getElem?_getD,List.getElem?_eq_getElem ha,List.getElem?_eq_getElem hb,Option.getD_some]
theorem jta{d:Rw}(hl:d.length<1000000):jvm d=some (srt d):=if_pos (by omega)
def ShR(d:Rw):Prop:=∀i,(d.getD i []).length≤1000000
theorem j11(d:Rw)(hd:ShR d)(hl:d.length<4096):jv d=some (srt d):=jta (by omega)
end Go.Proofs.YtclbndfjhjladaaGreat
