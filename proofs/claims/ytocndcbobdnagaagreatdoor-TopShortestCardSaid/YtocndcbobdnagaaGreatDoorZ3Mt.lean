/-
  The methods behind interfaces that this program calls.
-/
import Derived.Test.YtocndcbobdnagaaGreatDoorZ3Tt
set_option linter.all false
namespace Go.Proofs.YtocndcbobdnagaaGreatDoor
open Go.K Go.M
theorem tsz:Nat.blt 0 Tryz.prog.types.size=true:=by kernel_rfl
set_option maxRecDepth 100000 in
theorem ah:∀t nm g lo,mtG t nm=some (g,lo)->qu8 Tryz.prog t nm g lo:=by
 intro t nm g lo h;unfold mtG at h;split at h
 ·cases h;exact jd2 tsz (by kernel_rfl) Tryz.underlying152
 ·cases h;exact jd2 tsz (by kernel_rfl) Tryz.underlying152
 ·cases h;exact jd2 tsz (by kernel_rfl) Tryz.underlying152
 ·cases h;exact jn2 tsz (by kernel_rfl) Tryz.underlying152
 ·cases h;exact jn2 tsz (by kernel_rfl) Tryz.underlying152
 ·cases h
end Go.Proofs.YtocndcbobdnagaaGreatDoor
