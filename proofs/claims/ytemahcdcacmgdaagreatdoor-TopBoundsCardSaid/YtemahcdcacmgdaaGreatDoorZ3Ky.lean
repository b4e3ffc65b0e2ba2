/-
  The contracts proved by hand.
-/
import Derived.Test.YtemahcdcacmgdaaGreatDoorZ3Kk
import Derived.Test.YtemahcdcacmgdaaGreatDoorZ3Kt
import Derived.Test.YtemahcdcacmgdaaGreatDoorZ3Ks
set_option linter.all false
