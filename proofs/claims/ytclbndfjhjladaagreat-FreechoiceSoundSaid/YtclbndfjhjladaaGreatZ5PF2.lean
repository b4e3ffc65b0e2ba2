/-
  Flow: names, lists of places, nets, incidences: the program and the reference reckon alike.
-/
import Derived.Test.YtclbndfjhjladaaGreatZ5PRA
set_option linter.all false
namespace Go.Proofs.YtclbndfjhjladaaGreat
open Go.K Go.M
def jb1(t:ae)(p:Int):Int:=(if dj t.2.2.1 p then 1 else 0)-(if dj t.2.1 p then 1 else 0)
theorem jb2(t:ae)(p:Int): -1≤jb1 t p∧jb1 t p≤1:=by unfold jb1;repeat' split<;>omega
theorem q89(t:ae)(p:Int)(h1:t.2.1.length≤1000000)(h2:t.2.2.1.length≤1000000):xu t p=some (jb1 t p):=by
 unfold xu jb1;rw[o8 _ h1,o8 _ h2];cases dj t.2.1 p<;>cases dj t.2.2.1 p<;>rfl
end Go.Proofs.YtclbndfjhjladaaGreat
set_option linter.all false
namespace Go.Proofs.YtclbndfjhjladaaGreat
open Go.K Go.M
theorem jy1{α:Type}{p:α→Bool}{x:α}(h:p x=false):[x].filter p=[]:=by rw[List.filter_cons,h];rfl
theorem jy2{α:Type}{p:α→Bool}{x:α}(h:p x=true):[x].filter p=[x]:=by rw[List.filter_cons,h];rfl
theorem jrq(n:Nat)(h:n<2 ^ 64):IntKind.wrap .u64 (n:Int)=(n:Int):=by
 simp[IntKind.wrap,IntKind.bits,IntKind.signed];omega
theorem jua{n:Nat}(h:n<64):qos .u64 1 (n:Int)=((2 ^ n:Nat):Int):=by
 have hp:2 ^ n<2 ^ 64:=Nat.pow_lt_pow_right (by omega) h;unfold qos;rw[show min (Int.toNat (n:Int)) IntKind.u64.bits=n by simp[IntKind.bits];omega,show((1:Int)*2 ^ n)=((2 ^ n:Nat):Int) by simp];exact jrq _ hp
theorem jk4{d:Rw}(hl:d.length<1000000):jnk d=some (srt d):=if_pos (by omega)
def ShR(d:Rw):Prop:=∀i,(d.getD i []).length≤1000000
theorem jue(d:Rw)(hd:ShR d)(hl:d.length<4096):ky d=some (srt d):=jk4 (by omega)
end Go.Proofs.YtclbndfjhjladaaGreat
